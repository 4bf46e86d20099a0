/- The laws hold: at every input they return true, and what was given reads as it did. -/
import Derived.Test.YtnaclmcmicckeaaRows
import Derived.Test.YtnaclmcmicckeaaQ15

set_option linter.unusedSimpArgs false
set_option linter.unusedVariables false

namespace Go.Proofs.Ytnaclmcmicckeaa
open Go Go.Pv Go.Proofs Go.L
open Go.ChangeShapes Go.WideShapes Go.ChangeAt Go.RowKit

theorem own : ownKnob Try.prog.godebug = none := by kernel_rfl
theorem laidOut : laidOutB Try.prog = true := by kernel_rfl

set_option maxRecDepth 100000 in
theorem exactCopies_lifted (os : Os) (started : os.Started) (H : Type) (enc : TypeId × Value → H) :
  ReturnsInHanded {} Try.checked os 6 .any (Rows.exactCopiesSpec.pre6 enc Try.prog Try.f6 Rows.exactCopiesRow.domain false) (Rows.exactCopiesSpec.post enc Try.prog Try.f6 false true false false) := by
 refine returnsInHanded_of_change (C := Try.checked) own started (by kernel_rfl) Try.func6
  (ChangeSpec.witness6 (enc := enc) (C := Try.checked) false ⟨#[], #[.slice none 0 0, .slice none 0 0], []⟩ 8 (by kernel_rfl) (by kernel_rfl) (by kernel_rfl) (by kernel_rfl)) ?_
 intro W base args ds gs before hval hW _ _
 exact law_calls (l := [.val (.slice (.agg (.pair (.int .i64) (.pair (.int .i64) (.pair (.agg (.pair (.int .i64) (.pair (.int .u64) (.pair (.int .u64) .unit)))) .unit))))), .val (.slice (.agg (.pair (.int .i64) (.pair (.int .i64) (.pair (.agg (.pair (.int .i64) (.pair (.int .u64) (.pair (.int .u64) .unit)))) .unit)))))]) (F := fun x => law19_ExactCopies x.1 x.2.1) c6 Try.func6 (by kernel_rfl) (by kernel_rfl) (by kernel_rfl) laidOut (by kernel_rfl) (tb := 4) (by kernel_rfl) (by kernel_rfl) rfl
  (fun ds hl => by
   match ds, hl with
   | [d0, d1], _ => rfl)
  (fun x hx => copies_ok (ops := x.1) (more := x.2.1) (fun o ho => ⟨(hx.1.2 o ho).2.2.1.2.1, (hx.1.2 o ho).2.2.1.2.2.1⟩) fun o ho => ⟨(hx.2.1.2 o ho).2.2.1.2.1, (hx.2.1.2 o ho).2.2.1.2.2.1⟩) hval hW

theorem exactCopies_holds : Rows.ExactCopiesSaid :=
 OpenClaim.holds_of_wide 6 Try.f6 rfl rfl rfl rfl rfl rfl rfl ⟨rfl, rfl, rfl, rfl, rfl⟩ rfl rfl rfl rfl rfl (by kernel_rfl) Try.func6 (by kernel_rfl)
  (of_decide_eq_true (by kernel_rfl)) (by unfold Func.isWrapper; rw [if_neg (of_decide_eq_false (by kernel_rfl))]; exact ⟨rfl, rfl⟩)
  (fun os started H enc _ => exactCopies_lifted os started H enc)

end Go.Proofs.Ytnaclmcmicckeaa
