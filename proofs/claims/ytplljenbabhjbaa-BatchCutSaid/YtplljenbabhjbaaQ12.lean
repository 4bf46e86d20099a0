/- The functions of this seat, and the laws as plain Lean. -/
import Derived.Test.YtplljenbabhjbaaQ11

set_option linter.unusedSimpArgs false
set_option linter.unusedVariables false

namespace Go.Proofs.Ytplljenbabhjbaa
open Go Go.Pv Go.Proofs Go.L
set_option maxRecDepth 100000

theorem same_self (a : Up) : sameU a a = true := by simp [sameU]

theorem okS_of {u : Up} (hs : small u) : okS u := by
  obtain ⟨k1, k2, k3, k4⟩ := hs
  exact ⟨by omega, by omega, by omega, by omega⟩

end Go.Proofs.Ytplljenbabhjbaa
