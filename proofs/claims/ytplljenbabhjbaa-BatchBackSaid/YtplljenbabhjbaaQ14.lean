/- The functions of this seat, and the laws as plain Lean. -/
import Derived.Test.YtplljenbabhjbaaQ13

set_option linter.unusedSimpArgs false
set_option linter.unusedVariables false

namespace Go.Proofs.Ytplljenbabhjbaa
open Go Go.Pv Go.Proofs Go.L
set_option maxRecDepth 100000

theorem ck_get {α : Type} {l : List α} {i : Nat} (h : i < l.length) : Option.map (fun _ => (i : Int)) (ckI (i : Int) l.length) = some (i : Int) := by
  unfold ckI
  rw [if_pos ⟨by omega, by omega⟩]; rfl

end Go.Proofs.Ytplljenbabhjbaa
