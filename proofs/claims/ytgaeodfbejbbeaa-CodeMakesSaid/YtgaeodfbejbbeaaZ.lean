/- The laws hold: at every input they return true, and what was given reads as it did. -/
import Derived.Test.YtgaeodfbejbbeaaRows
import Derived.Test.YtgaeodfbejbbeaaQ11

set_option linter.unusedSimpArgs false
set_option linter.unusedVariables false

namespace Go.Proofs.Ytgaeodfbejbbeaa
open Go Go.Pv Go.Proofs Go.L
open Go.ChangeShapes Go.WideShapes Go.ChangeAt Go.RowKit

theorem own : ownKnob Try.prog.godebug = none := by kernel_rfl
theorem laidOut : laidOutB Try.prog = true := by kernel_rfl

set_option maxRecDepth 100000 in
theorem codeMakes_lifted (os : Os) (started : os.Started) (H : Type) (enc : TypeId × Value → H) :
    ReturnsInHanded {} Try.checked os 4 .any (Rows.codeMakesSpec.pre6 enc Try.prog Try.f4 Rows.codeMakesRow.domain false) (Rows.codeMakesSpec.post enc Try.prog Try.f4 false true false false) := by
  refine returnsInHanded_of_change (C := Try.checked) own started (by kernel_rfl) Try.func4
    (ChangeSpec.witness6 (enc := enc) (C := Try.checked) false ⟨#[], #[.agg #[.int .i64 0, .int .i64 0, .int .i64 0, .int .i64 0, .int .u64 0, .int .u64 0]], []⟩ 8 (by kernel_rfl) (by kernel_rfl) (by kernel_rfl) (by kernel_rfl)) ?_
  intro W base args ds gs before hval hW _ _
  exact law_calls (l := [.val (.agg (.pair (.int .i64) (.pair (.int .i64) (.pair (.int .i64) (.pair (.agg (.pair (.int .i64) (.pair (.int .u64) (.pair (.int .u64) .unit)))) .unit)))))]) (F := fun x => law09_CodeMakes x.1) c4 Try.func4 (by kernel_rfl) (by kernel_rfl) (by kernel_rfl) laidOut (by kernel_rfl) (tb := 4) (by kernel_rfl) (by kernel_rfl) rfl
    (fun ds hl => by
      match ds, hl with
      | [d0], _ => rfl)
    (fun x hx => makes_ok ⟨hx.1.2.2.2.1.2.1, hx.1.2.2.2.1.2.2.1⟩) hval hW

theorem codeMakes_holds : Rows.CodeMakesSaid :=
  OpenClaim.holds_of_wide 4 Try.f4 rfl rfl rfl rfl rfl rfl rfl ⟨rfl, rfl, rfl, rfl, rfl⟩ rfl rfl rfl rfl rfl (by kernel_rfl) Try.func4 (by kernel_rfl)
    (of_decide_eq_true (by kernel_rfl)) (by unfold Func.isWrapper; rw [if_neg (of_decide_eq_false (by kernel_rfl))]; exact ⟨rfl, rfl⟩)
    (fun os started H enc _ => codeMakes_lifted os started H enc)

end Go.Proofs.Ytgaeodfbejbbeaa
