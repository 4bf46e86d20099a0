/- SumPieces: adding bytes piece by piece, divided anywhere, gives the checksum of all of them: for every input, without condition. -/
import Derived.Test.YtmjappidghjkjaaRows
import Derived.Test.YtmjappidghjkjaaSc
namespace Go.Proofs.Ytmjappidghjkjaa
open Go Go.Pv Go.Proofs
open Go.ChangeShapes Go.WideShapes Go.ChangeAt Go.RowKit

theorem own : ownKnob Try.prog.godebug = none := by kernel_rfl
theorem laidOut : laidOutB Try.prog = true := by kernel_rfl

set_option maxRecDepth 100000 in
theorem sumPieces_lifted (os : Os) (started : os.Started) (H : Type) (enc : TypeId × Value → H) :
    ReturnsInHanded {} Try.checked os 3 .any (Rows.sumPiecesSpec.pre6 enc Try.prog Try.f3 Rows.sumPiecesRow.domain false) (Rows.sumPiecesSpec.post enc Try.prog Try.f3 false true false false) := by
  refine returnsInHanded_of_change (C := Try.checked) own started (by kernel_rfl) Try.func3
    (ChangeSpec.witness6 (enc := enc) (C := Try.checked) false ⟨#[], #[.slice none 0 0], []⟩ 8 (by kernel_rfl) (by kernel_rfl) (by kernel_rfl) (by kernel_rfl)) ?_
  intro W base args ds gs before hval hW _ _
  exact law_calls (l := [.val (.slice (.slice u8))]) (F := fun x => pcF x.1) c3 (by kernel_rfl) laidOut (by kernel_rfl) (tb := 4) (by kernel_rfl) (by kernel_rfl) rfl
    (fun ds hl => by
      match ds, hl with
      | [d], _ => rfl)
    (fun x hx => pcF_ok fun q hq => ⟨(hx.1.2 q hq).1, bytes_of (hx.1.2 q hq).2⟩) hval hW

theorem sumPieces_holds : Rows.SumPiecesSaid :=
  OpenClaim.holds_of_wide 3 Try.f3 rfl rfl rfl rfl rfl rfl rfl ⟨rfl, rfl, rfl, rfl, rfl⟩ rfl rfl rfl rfl rfl (by kernel_rfl) Try.func3 (by kernel_rfl)
    (of_decide_eq_true (by kernel_rfl)) (by unfold Func.isWrapper; rw [if_neg (of_decide_eq_false (by kernel_rfl))]; exact ⟨rfl, rfl⟩)
    (fun os started H enc _ => sumPieces_lifted os started H enc)

end Go.Proofs.Ytmjappidghjkjaa
