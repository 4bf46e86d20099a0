/- The law SumPieces, as a plain function. -/
import Derived.Test.YtmjappidghjkjaaSa
namespace Go.Proofs.Ytmjappidghjkjaa
open Go Go.Pv Go.Proofs
set_option maxRecDepth 100000

abbrev PcS := (List (List Int) × List Int × Int × Unit) × (AdT × Unit)
noncomputable def pcStep (p : List (List Int)) (all : List Int) (i : Int) (a : AdT) : Option (PcS ⊕ (Bool × Unit) × Unit) :=
  bif decide (i < (p.length : Int)) then (rdI p i).bind fun q => bif decide ((q.length : Int) > 200) then livesF.bind fun l => some (.inr ((l.1.1, ()), ()))
    else (rdI p i).bind fun q2 => (addF a q2).bind fun r => (rdI p i).bind fun q3 => (roomI 1 all q3).bind fun all' => (ofF all').bind fun s =>
      bif !decide (IntKind.u16.wrap (65535 - IntKind.u16.wrap r.2.1.1) = s.1.1) then some (.inr ((false, ()), ())) else some (.inl ((p, all', IntKind.i64.wrap (i + 1), ()), (r.2.1, ())))
  else (livesF.bind fun l => some (((l.1.1, ()), ()) : (Bool × Unit) × Unit)).map .inr
noncomputable def pcF (p : List (List Int)) : Option ((Bool × Unit) × Unit) :=
  bif decide ((p.length : Int) > 40) then livesF.bind fun l => some ((l.1.1, ()), ())
  else loopR (fun (z : PcS) => pcStep z.1.1 z.1.2.1 z.1.2.2.1 z.2.1) ((p, [], 0, ()), ((0, false, ()), ()))
noncomputable def sg3 : Sig := ⟨[.val (.slice (.slice u8))], [.val .bool], []⟩
noncomputable def cf3 : Cfg := cf [(8, sem8), (9, sem9), (10, sem10), (11, sem11), (12, sem12)] 53 0 [(0, ⟨[(0, .dat (.slice (.slice u8))), (3, .loc (nameOf 3 0) []), (4, .own u8 false), (5, .dat i64)], [(nameOf 3 0, Ad)]⟩)]
theorem r3 (x : ArgT sg3.args) : runF cf3 sg3 (bodyOf Try.f3) [2] x = pcF x.1 := by kernel_rfl
theorem c3 : Contract Try.prog 3 (mkSem sg3 fun x => pcF x.1) :=
  contract_of (C := cf3) (fun f sem h => Tab.cons c8 (Tab.cons c9 (Tab.cons c10 (Tab.cons c11 (Tab.cons c12 Tab.nil)))) _ (lk_mem' h)) (S := sg3) (fn := Try.f3) (c := bodyOf Try.f3) (ts := [2]) Try.func3 (by kernel_rfl) (by kernel_rfl) (by kernel_rfl) (by kernel_rfl) (by kernel_rfl) (by kernel_rfl) (by kernel_rfl) r3

end Go.Proofs.Ytmjappidghjkjaa
