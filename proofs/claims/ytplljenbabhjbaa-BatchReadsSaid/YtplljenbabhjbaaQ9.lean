/- The functions of this seat, and the laws as plain Lean. -/
import Derived.Test.YtplljenbabhjbaaQ8

set_option linter.unusedSimpArgs false
set_option linter.unusedVariables false

namespace Go.Proofs.Ytplljenbabhjbaa
open Go Go.Pv Go.Proofs Go.L
set_option maxRecDepth 100000

theorem lives_ok : law25_lives = some ((true, ()), ()) := by
  unfold law25_lives
  rw [encode_nil, Option.bind_some]
  rfl

end Go.Proofs.Ytplljenbabhjbaa
