/- The functions of this seat, and the laws as plain Lean. -/
import Derived.Test.YtffgheglileflaaQ11

set_option linter.unusedSimpArgs false
set_option linter.unusedVariables false

namespace Go.Proofs.Ytffgheglileflaa
open Go Go.Pv Go.Proofs Go.L
set_option maxRecDepth 100000

abbrev VV := Int × Int × Int × Unit
abbrev OpW := Int × Int × Int × Int × VV × List Int × List VV × List Int × Unit

theorem rdI_i {α : Type} {l : List α} {i : Nat} (h : i < l.length) : rdI l (i : Int) = some l[i] := by
  unfold rdI
  rw [if_pos (by omega), Int.toNat_natCast, List.getElem?_eq_getElem h]

theorem ck_i {α : Type} {l : List α} {i : Nat} (h : i < l.length) : Option.map (fun _ => (i : Int)) (ckI (i : Int) l.length) = some (i : Int) := by
  unfold ckI
  rw [if_pos ⟨by omega, by omega⟩]; rfl

end Go.Proofs.Ytffgheglileflaa
