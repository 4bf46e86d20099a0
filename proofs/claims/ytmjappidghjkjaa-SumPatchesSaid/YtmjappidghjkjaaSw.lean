/- SumPatches and SumFixes hold. -/
import Derived.Test.YtmjappidghjkjaaSy
import Derived.Test.YtmjappidghjkjaaSh
namespace Go.Proofs.Ytmjappidghjkjaa
open Go Go.Pv Go.Proofs
open Go.ChangeShapes Go.WideShapes Go.ChangeAt Go.RowKit

theorem i64_of {n : Int} (h : Wf i64 n) : -9223372036854775808 ≤ n ∧ n < 9223372036854775808 := by
  have := (inR_iff .i64 n).1 h
  simp [IntKind.min, IntKind.max, IntKind.signed, IntKind.bits] at this
  omega
theorem u16_of {n : Int} (h : Wf (.int .u16) n) : 0 ≤ n ∧ n ≤ 65535 := by
  have := (inR_iff .u16 n).1 h
  simp [IntKind.min, IntKind.max, IntKind.signed, IntKind.bits] at this
  omega

set_option maxRecDepth 100000 in
theorem sumPatches_lifted (os : Os) (started : os.Started) (H : Type) (enc : TypeId × Value → H) :
    ReturnsInHanded {} Try.checked os 6 .any (Rows.sumPatchesSpec.pre6 enc Try.prog Try.f6 Rows.sumPatchesRow.domain false) (Rows.sumPatchesSpec.post enc Try.prog Try.f6 false true false false) := by
  refine returnsInHanded_of_change (C := Try.checked) own started (by kernel_rfl) Try.func6
    (ChangeSpec.witness6 (enc := enc) (C := Try.checked) false ⟨#[], #[.slice none 0 0, .int .i64 0, .int .u16 0], []⟩ 8 (by kernel_rfl) (by kernel_rfl) (by kernel_rfl) (by kernel_rfl)) ?_
  intro W base args ds gs before hval hW _ _
  exact law_calls (l := [.val (.slice (.int .u8)), .val (.int .i64), .val (.int .u16)]) (F := fun x => f6 x.1 x.2.1 x.2.2.1) c6 (by kernel_rfl) laidOut (by kernel_rfl) (tb := 4) (by kernel_rfl) (by kernel_rfl) rfl
    (fun ds hl => by
      match ds, hl with
      | [d1, d2, d3], _ => rfl)
    (fun x hx => f6_ok (bytes_of hx.1.2) (u16_of hx.2.2.1)) hval hW

theorem sumPatches_holds : Rows.SumPatchesSaid :=
  OpenClaim.holds_of_wide 6 Try.f6 rfl rfl rfl rfl rfl rfl rfl ⟨rfl, rfl, rfl, rfl, rfl⟩ rfl rfl rfl rfl rfl (by kernel_rfl) Try.func6 (by kernel_rfl)
    (of_decide_eq_true (by kernel_rfl)) (by unfold Func.isWrapper; rw [if_neg (of_decide_eq_false (by kernel_rfl))]; exact ⟨rfl, rfl⟩)
    (fun os started H enc _ => sumPatches_lifted os started H enc)

set_option maxRecDepth 100000 in
theorem sumFixes_lifted (os : Os) (started : os.Started) (H : Type) (enc : TypeId × Value → H) :
    ReturnsInHanded {} Try.checked os 7 .any (Rows.sumFixesSpec.pre6 enc Try.prog Try.f7 Rows.sumFixesRow.domain false) (Rows.sumFixesSpec.post enc Try.prog Try.f7 false true false false) := by
  refine returnsInHanded_of_change (C := Try.checked) own started (by kernel_rfl) Try.func7
    (ChangeSpec.witness6 (enc := enc) (C := Try.checked) false ⟨#[], #[.slice none 0 0, .int .i64 0], []⟩ 8 (by kernel_rfl) (by kernel_rfl) (by kernel_rfl) (by kernel_rfl)) ?_
  intro W base args ds gs before hval hW _ _
  exact law_calls (l := [.val (.slice (.int .u8)), .val (.int .i64)]) (F := fun x => f7 x.1 x.2.1) c7 (by kernel_rfl) laidOut (by kernel_rfl) (tb := 4) (by kernel_rfl) (by kernel_rfl) rfl
    (fun ds hl => by
      match ds, hl with
      | [d1, d2], _ => rfl)
    (fun x hx => f7_ok (bytes_of hx.1.2) (i64_of hx.2.1)) hval hW

theorem sumFixes_holds : Rows.SumFixesSaid :=
  OpenClaim.holds_of_wide 7 Try.f7 rfl rfl rfl rfl rfl rfl rfl ⟨rfl, rfl, rfl, rfl, rfl⟩ rfl rfl rfl rfl rfl (by kernel_rfl) Try.func7 (by kernel_rfl)
    (of_decide_eq_true (by kernel_rfl)) (by unfold Func.isWrapper; rw [if_neg (of_decide_eq_false (by kernel_rfl))]; exact ⟨rfl, rfl⟩)
    (fun os started H enc _ => sumFixes_lifted os started H enc)

end Go.Proofs.Ytmjappidghjkjaa
