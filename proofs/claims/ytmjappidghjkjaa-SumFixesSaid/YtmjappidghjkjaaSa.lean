/- The functions of shunter/sum and of its law SumPieces: what each computes, in plain Lean. -/
import Derived.Test.YtmjappidghjkjaaProg
import Derived.Test.YtmjappidghjkjaaPvFn
namespace Go.Proofs.Ytmjappidghjkjaa
open Go Go.Pv Go.Proofs
set_option maxRecDepth 100000

abbrev u64 : Ty := .int .u64
abbrev u16 : Ty := .int .u16
abbrev u8 : Ty := .int .u8
abbrev i64 : Ty := .int .i64
abbrev Ad : Ty := .agg (.pair u64 (.pair .bool .unit))
abbrev AdT := Int × Bool × Unit

noncomputable def bodyOf (f : Func) : Code := match f.body with | some c => c | none => .skip
noncomputable def cf (tab : List (Nat × CSem)) (nt nob : Nat) (ann : List (Nat × Shape)) : Cfg := ⟨Try.prog, fun f => lk f tab, nt, nob, fun n => lk n ann⟩
def Tab (tab : List (Nat × CSem)) : Prop := ∀ q ∈ tab, Contract Try.prog q.1 q.2
theorem Tab.nil : Tab [] := fun q h => by cases h
theorem Tab.cons {f : Nat} {sem : CSem} {l : List (Nat × CSem)} (h : Contract Try.prog f sem) (t : Tab l) : Tab ((f, sem) :: l) := fun q hq => by
  rcases List.mem_cons.1 hq with rfl | hq
  · exact h
  · exact t q hq

/-! ### fold -/
noncomputable def foldStep (n : Int) : Option ((Int × Unit) × Unit ⊕ (Int × Unit) × Unit) :=
  bif decide (n > 65535) then some (.inl ((IntKind.u64.wrap (n.fdiv (2^16) + bitsI .and .u64 n 65535), ()), ())) else some (.inr ((n, ()), ()))
noncomputable def foldF (n : Int) : Option ((Int × Unit) × Unit) := loopR (fun (z : (Int × Unit) × Unit) => foldStep z.1.1) ((n, ()), ())
noncomputable def sg21 : Sig := ⟨[.val u64], [.val u64], []⟩
noncomputable def sem21 : CSem := mkSem sg21 fun x => foldF x.1
theorem c21 : Contract Try.prog 21 sem21 :=
  contract_of (C := cf [] 11 0 [(0, ⟨[(0, .dat u64)], []⟩)]) (fun f sem h => Tab.nil _ (lk_mem' h)) (S := sg21) (fn := Try.f21) (c := bodyOf Try.f21) (ts := [2]) Try.func21 (by kernel_rfl) (by kernel_rfl) (by kernel_rfl) (by kernel_rfl) (by kernel_rfl) (by kernel_rfl) (by kernel_rfl) (fun x => by kernel_rfl)

/-! ### (*Adder).Add -/
noncomputable def addStep (fold : Int → Option ((Int × Unit) × Unit)) (b : List Int) (n i : Int) (a : AdT) : Option (((List Int × Int × Int × Unit) × (AdT × Unit)) ⊕ Unit × AdT × Unit) :=
  bif decide (i < n) then (rdI b i).bind fun c => bif !a.2.1 then
      (fold (IntKind.u64.wrap (a.1 + IntKind.u64.wrap (IntKind.u64.wrap c * 2 ^ 8)))).bind fun r => some (.inl ((b, n, IntKind.i64.wrap (i + 1), ()), ((r.1.1, !a.2.1, ()), ())))
    else (fold (IntKind.u64.wrap (a.1 + IntKind.u64.wrap c))).bind fun r => some (.inl ((b, n, IntKind.i64.wrap (i + 1), ()), ((r.1.1, !a.2.1, ()), ())))
  else some (.inr ((), a, ()))
noncomputable def addF (a : AdT) (b : List Int) : Option (Unit × AdT × Unit) :=
  loopR (fun (z : (List Int × Int × Int × Unit) × (AdT × Unit)) => addStep foldF z.1.1 z.1.2.1 z.1.2.2.1 z.2.1) ((b, (List.length (α := Int) b : Int), 0, ()), (a, ()))
noncomputable def sg9 : Sig := ⟨[.obj Ad, .val (.slice u8)], [], [Ad]⟩
noncomputable def sg9n : Sig := ⟨[.val .nilp, .val (.slice u8)], [], []⟩
noncomputable def sem9 : CSem := orSem (mkSem sg9 fun x => addF x.1 x.2.1) (mkSem sg9n fun _ => some ((), ()))
theorem contract_or {P : Program} {f : Nat} {a b : CSem} (ha : Contract P f a) (hb : Contract P f b) : Contract P f (orSem a b) := by
  refine ⟨ha.1, fun avs s hs => ?_⟩
  unfold orSem at hs
  split at hs
  · rename_i s' h
    obtain rfl := Option.some.inj hs
    exact ha.2 avs _ h
  · exact hb.2 avs s hs
theorem c9 : Contract Try.prog 9 sem9 := contract_or
  (contract_of (C := cf [(21, sem21)] 44 1 [(0, ⟨[(0, .loc (objName 0) []), (1, .dat (.slice u8)), (9, .dat i64), (10, .dat i64)], [(objName 0, Ad)]⟩)]) (fun f sem h => Tab.cons c21 Tab.nil _ (lk_mem' h))
    (S := sg9) (fn := Try.f9) (c := bodyOf Try.f9) (ts := []) Try.func9 (by kernel_rfl) (by kernel_rfl) (by kernel_rfl) (by kernel_rfl) (by kernel_rfl) (by kernel_rfl) (by kernel_rfl) (fun x => by kernel_rfl))
  (contract_of (C := cf [(21, sem21)] 44 0 []) (fun f sem h => Tab.cons c21 Tab.nil _ (lk_mem' h))
    (S := sg9n) (fn := Try.f9) (c := bodyOf Try.f9) (ts := []) Try.func9 (by kernel_rfl) (by kernel_rfl) (by kernel_rfl) (by kernel_rfl) (by kernel_rfl) (by kernel_rfl) (by kernel_rfl) (fun x => by kernel_rfl))

/-! ### Total, Sum, Of, Right, lives -/
noncomputable def sg12 : Sig := ⟨[.obj Ad], [.val u16], [Ad]⟩
noncomputable def sg12n : Sig := ⟨[.val .nilp], [.val u16], []⟩
noncomputable def sem12 : CSem := orSem (mkSem sg12 fun x => some ((IntKind.u16.wrap x.1.1, ()), (x.1, ()))) (mkSem sg12n fun _ => some ((0, ()), ()))
theorem c12 : Contract Try.prog 12 sem12 := contract_or
  (contract_of (C := cf [] 10 1 []) (fun f sem h => Tab.nil _ (lk_mem' h)) (S := sg12) (fn := Try.f12) (c := bodyOf Try.f12) (ts := [2]) Try.func12 (by kernel_rfl) (by kernel_rfl) (by kernel_rfl) (by kernel_rfl) (by kernel_rfl) (by kernel_rfl) (by kernel_rfl) (fun x => by kernel_rfl))
  (contract_of (C := cf [] 10 0 []) (fun f sem h => Tab.nil _ (lk_mem' h)) (S := sg12n) (fn := Try.f12) (c := bodyOf Try.f12) (ts := [2]) Try.func12 (by kernel_rfl) (by kernel_rfl) (by kernel_rfl) (by kernel_rfl) (by kernel_rfl) (by kernel_rfl) (by kernel_rfl) (fun x => by kernel_rfl))
noncomputable def sem10 : CSem := orSem (mkSem sg12 fun x => some ((IntKind.u16.wrap (65535 - IntKind.u16.wrap x.1.1), ()), (x.1, ()))) (mkSem sg12n fun _ => some ((IntKind.u16.wrap (65535 - 0), ()), ()))
theorem c10 : Contract Try.prog 10 sem10 := contract_or
  (contract_of (C := cf [(12, sem12)] 6 1 []) (fun f sem h => Tab.cons c12 Tab.nil _ (lk_mem' h)) (S := sg12) (fn := Try.f10) (c := bodyOf Try.f10) (ts := [2]) Try.func10 (by kernel_rfl) (by kernel_rfl) (by kernel_rfl) (by kernel_rfl) (by kernel_rfl) (by kernel_rfl) (by kernel_rfl) (fun x => by kernel_rfl))
  (contract_of (C := cf [(12, sem12)] 6 0 []) (fun f sem h => Tab.cons c12 Tab.nil _ (lk_mem' h)) (S := sg12n) (fn := Try.f10) (c := bodyOf Try.f10) (ts := [2]) Try.func10 (by kernel_rfl) (by kernel_rfl) (by kernel_rfl) (by kernel_rfl) (by kernel_rfl) (by kernel_rfl) (by kernel_rfl) (fun x => by kernel_rfl))

noncomputable def ofF (b : List Int) : Option ((Int × Unit) × Unit) := (addF (0, false, ()) b).bind fun r => some ((IntKind.u16.wrap (65535 - IntKind.u16.wrap r.2.1.1), ()), ())
noncomputable def sg11 : Sig := ⟨[.val (.slice u8)], [.val u16], []⟩
noncomputable def sem11 : CSem := mkSem sg11 fun x => ofF x.1
theorem c11 : Contract Try.prog 11 sem11 :=
  contract_of (C := cf [(9, sem9), (10, sem10)] 7 0 []) (fun f sem h => Tab.cons c9 (Tab.cons c10 Tab.nil) _ (lk_mem' h)) (S := sg11) (fn := Try.f11) (c := bodyOf Try.f11) (ts := [2]) Try.func11 (by kernel_rfl) (by kernel_rfl) (by kernel_rfl) (by kernel_rfl) (by kernel_rfl) (by kernel_rfl) (by kernel_rfl) (fun x => by kernel_rfl)

noncomputable def livesF : Option ((Bool × Unit) × Unit) := (ofF [69, 0, 0, 28]).bind fun r => some ((decide (r.1.1 = 47843), ()), ())
noncomputable def sg8 : Sig := ⟨[], [.val .bool], []⟩
noncomputable def sem8 : CSem := mkSem sg8 fun _ => livesF
theorem c8 : Contract Try.prog 8 sem8 :=
  contract_of (C := cf [(11, sem11)] 4 0 []) (fun f sem h => Tab.cons c11 Tab.nil _ (lk_mem' h)) (S := sg8) (fn := Try.f8) (c := bodyOf Try.f8) (ts := [0]) Try.func8 (by kernel_rfl) (by kernel_rfl) (by kernel_rfl) (by kernel_rfl) (by kernel_rfl) (by kernel_rfl) (by kernel_rfl) (fun x => by kernel_rfl)

end Go.Proofs.Ytmjappidghjkjaa
