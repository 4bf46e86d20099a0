/- The functions of this seat, and the laws as plain Lean. -/
import Derived.Test.YtgaeodfbejbbeaaQ10

set_option linter.unusedSimpArgs false
set_option linter.unusedVariables false

namespace Go.Proofs.Ytgaeodfbejbbeaa
open Go Go.Pv Go.Proofs Go.L
set_option maxRecDepth 100000

theorem lives_ok : law09_lives = some ((true, ()), ()) := by
  unfold law09_lives
  have hv : okV ((10, 7, 0, (0, 0, 0, ()), ()) : Ins).2.2.2.1 := ⟨rfl, rfl⟩
  have e7 : dtx 7 = [55] := by
    unfold dtx
    rw [if_neg (by decide)]
    show text 10 7 = _
    unfold text
    rw [D_eq (by omega)]
    rfl
  have e0 : dtx 0 = [48] := by
    unfold dtx
    rw [if_neg (by decide)]
    show text 10 0 = _
    unfold text
    rw [D_eq (by omega)]
    rfl
  have ht : itx (10, 7, 0, (0, 0, 0, ()), ()) = [115, 108, 105, 99, 101, 32, 55, 32, 48] := by
    unfold itx
    show (if knownB 10 = true then (rowK 10).name ++ (if (10 : Int) = 0 then [32] ++ vtxt (0, 0, 0, ()) else if (rowK 10).many = 0 then [] else if (rowK 10).many = 1 then [32] ++ dtx 7 else [32] ++ dtx 7 ++ ([32] ++ dtx 0)) else []) = _
    rw [e7, e0]
    rfl
  rw [show code_Effect 10 = some ((1, 1, ()), ()) from Effect_ok (k := 10) (by omega), Option.bind_some, Text_ok hv, ht, Option.bind_some]
  rfl

theorem back_ok {x : Ins} (hv : okV x.2.2.2.1) : law09_CodeBack x = some ((true, ()), ()) := by
  unfold law09_CodeBack
  have hz : ((x.1, x.2.1, x.2.2.1, (x.2.2.2.1.1, x.2.2.2.1.2.1, x.2.2.2.1.2.2.1, ()), ()) : Ins) = x := rfl
  rw [show code_Plain_127 () = some ((insZ, false, ()), ()) from rfl, Option.bind_some]
  simp only [gsome]
  rw [show (bif false then true else (!(decide ((bif !false then insZ else (0, 0, 0, (0, 0, 0, ()), ())).1 = 0) && (decide ((bif !false then insZ else (0, 0, 0, (0, 0, 0, ()), ())).2.1 = 0) && (decide ((bif !false then insZ else (0, 0, 0, (0, 0, 0, ()), ())).2.2.1 = 0) && (decide ((bif !false then insZ else (0, 0, 0, (0, 0, 0, ()), ())).2.2.2.1.1 = 0) && (decide ((bif !false then insZ else (0, 0, 0, (0, 0, 0, ()), ())).2.2.2.1.2.1 = 0) && decide ((bif !false then insZ else (0, 0, 0, (0, 0, 0, ()), ())).2.2.2.1.2.2.1 = 0)))))) : Bool)) = false from rfl, cond_false, hz, make_ok hv, Option.bind_some]
  by_cases hm : mayI x = 0
  · rw [if_pos hm]
    dsimp only
    rw [decide_eq_true rfl, Bool.not_true, cond_false]
    obtain ⟨k, hk, hk35⟩ := known_of (known_may hm)
    obtain ⟨n, a, b, v, _⟩ := x
    dsimp only at hk
    subst hk
    have hb := back_eq hm
    dsimp only at hv
    rw [Int.toNat_natCast, Plain_ok (ty_lt hk35) _ _ _ hv, hb, if_pos ⟨hm, by rw [Int.toNat_natCast]⟩, Option.bind_some]
    simp only [cond_true, decide_true, Bool.and_self, gtrue, lives_ok, Option.bind_some]
  · rw [if_neg hm]
    dsimp only
    rw [decide_eq_false hm, Bool.not_false, cond_true, lives_ok]
    rfl

end Go.Proofs.Ytgaeodfbejbbeaa

namespace Go.Proofs.Ytgaeodfbejbbeaa
open Go Go.Pv Go.Proofs Go.L
set_option maxRecDepth 100000

theorem dJJ : decide (([74, 117, 109, 112] : List Int) = [74, 117, 109, 112]) = true := rfl
theorem dJG : decide (([74, 117, 109, 112] : List Int) = [71, 111, 110, 101]) = false := rfl
theorem dJP : decide (([74, 117, 109, 112] : List Int) = [80, 117, 115, 104]) = false := rfl
theorem dGJ : decide (([71, 111, 110, 101] : List Int) = [74, 117, 109, 112]) = false := rfl
theorem dGG : decide (([71, 111, 110, 101] : List Int) = [71, 111, 110, 101]) = true := rfl
theorem dGP : decide (([71, 111, 110, 101] : List Int) = [80, 117, 115, 104]) = false := rfl
theorem dPJ : decide (([80, 117, 115, 104] : List Int) = [74, 117, 109, 112]) = false := rfl
theorem dPG : decide (([80, 117, 115, 104] : List Int) = [71, 111, 110, 101]) = false := rfl
theorem dPP : decide (([80, 117, 115, 104] : List Int) = [80, 117, 115, 104]) = true := rfl
theorem dself (p : Int) : decide (p = p) = true := decide_eq_true rfl
theorem dtt : decide (true = true) = true := rfl
theorem dff : decide (false = false) = true := rfl

/-- one round, by what the functions say -/
theorem s2_one {l : List Ins} {s : List Stp} {i : Nat} {x : Ins} {y : Stp} {k : Nat} {to p q mn : Int} {ok : Bool} {nm ty : List Int} {la lb : List Int} (hi : i < l.length) (hs : s.length = l.length) (hn : l.length ≤ 1000) (h1 : rdI l (i : Int) = some x) (h2 : rdI s (i : Int) = some y) (hk : k < 35) (hx : x.1 = (k : Int))
    (hT : code_Target_f6b y = some ((to, ok, ()), ())) (hE : code_Effect (k : Int) = some ((p, q, ()), ())) (hrow : rdI (tabL.map rowR) (k : Int) = some (nm, p, q, mn, la, lb, ty, ()))
    (h : (ty = [74, 117, 109, 112] ∧ to = x.2.1 ∧ ok = true ∧ getAlt0 y = none) ∨ (ty = [71, 111, 110, 101] ∧ to = x.2.2.1 ∧ ok = true ∧ getAlt0 y = none) ∨ (ty = [80, 117, 115, 104] ∧ to = 0 ∧ ok = false ∧ ∃ v : V4T, getAlt0 y = some (v, ()) ∧ code_Only_f6b y = some (((v, ()), ()), ())) ∨ (ty ≠ [74, 117, 109, 112] ∧ ty ≠ [71, 111, 110, 101] ∧ ty ≠ [80, 117, 115, 104] ∧ to = 0 ∧ ok = false ∧ getAlt0 y = none)) :
    law09_CodeLists_s2 l s (i : Int) = some (.inl ((l, s, ((i + 1 : Nat) : Int), ()), ())) := by
  unfold law09_CodeLists_s2
  have h35 : (tabL.map rowR).length = 35 := rfl
  have hw := wi64 (show i < 1000000000 by omega)
  simp only [dlt hi, cond_true, hs, ck_nat hi, h1, h2, Option.bind_some, hT, hE, table_is, hx, h35, ck_nat hk, hrow]
  rcases h with ⟨rfl, rfl, rfl, e⟩ | ⟨rfl, rfl, rfl, e⟩ | ⟨rfl, rfl, rfl, v, e, ho⟩ | ⟨nJ, nG, nP, rfl, rfl, e⟩
  · simp only [e, gtrue, gfalse, cond_true, cond_false, Bool.not_true, Bool.not_false, Bool.or_false, Bool.or_true, Bool.true_or, Bool.false_or, Bool.and_self, Option.isSome_none, Option.isSome_some, Option.getD_some, Option.bind_some, dJJ, dJG, dJP, dGJ, dGG, dGP, dPJ, dPG, dPP, dtt, dff, dself, decide_true, hw]
  · simp only [e, gtrue, gfalse, cond_true, cond_false, Bool.not_true, Bool.not_false, Bool.or_false, Bool.or_true, Bool.true_or, Bool.false_or, Bool.and_self, Option.isSome_none, Option.isSome_some, Option.getD_some, Option.bind_some, dJJ, dJG, dJP, dGJ, dGG, dGP, dPJ, dPG, dPP, dtt, dff, dself, decide_true, hw]
  · simp only [e, ck_nat hi, h2, ho, gtrue, gfalse, cond_true, cond_false, Bool.not_true, Bool.not_false, Bool.or_false, Bool.or_true, Bool.true_or, Bool.false_or, Bool.and_self, Option.isSome_none, Option.isSome_some, Option.getD_some, Option.bind_some, dJJ, dJG, dJP, dGJ, dGG, dGP, dPJ, dPG, dPP, dtt, dff, dself, decide_true, hw]
  · simp only [e, decide_eq_false nJ, decide_eq_false nG, decide_eq_false nP, gtrue, gfalse, cond_true, cond_false, Bool.not_true, Bool.not_false, Bool.or_false, Bool.or_true, Bool.true_or, Bool.false_or, Bool.and_self, Option.isSome_none, Option.isSome_some, Option.getD_some, Option.bind_some, dJJ, dJG, dJP, dGJ, dGG, dGP, dPJ, dPG, dPP, dtt, dff, dself, decide_true, hw]

theorem get0 {t : Nat} (h : t < 11) (o a b : Int) (v : V4T) : getAlt0 (mkS t o a b v) = if t = 0 then some (v, ()) else none := by
  rcases ops11 h with rfl | rfl | rfl | rfl | rfl | rfl | rfl | rfl | rfl | rfl | rfl <;> rfl

theorem s2_step {l : List Ins} {i : Nat} (hl : l.length ≤ 1000) (hi : i < l.length) (hm : mayI l[i] = 0) :
    law09_CodeLists_s2 l (l.map stp) (i : Int) = some (.inl ((l, l.map stp, ((i + 1 : Nat) : Int), ()), ())) := by
  obtain ⟨k, hk, hk35⟩ := known_of (known_may hm)
  have ht := ty_lt hk35
  have hst : stp l[i] = mkS (rowK k).ty l[i].1 l[i].2.1 l[i].2.2.1 l[i].2.2.2.1 := by unfold stp; rw [hk, Int.toNat_natCast]
  refine s2_one hi (List.length_map _) hl (rdI_nat hi) (y := stp l[i]) (by rw [rdI_nat (by simpa using hi)]; simp) hk35 hk (by rw [hst, Target_ok ht]) (Effect_ok hk35) (rowK_rd hk35) ?_
  rw [hst, get0 ht]
  generalize rowK k = r at ht ⊢
  generalize hty : r.ty = t at ht ⊢
  rcases ops11 ht with rfl | rfl | rfl | rfl | rfl | rfl | rfl | rfl | rfl | rfl | rfl
  · exact .inr (.inr (.inl ⟨rfl, rfl, rfl, _, rfl, rfl⟩))
  · exact .inr (.inr (.inr ⟨by decide, by decide, by decide, rfl, rfl, rfl⟩))
  · exact .inr (.inr (.inr ⟨by decide, by decide, by decide, rfl, rfl, rfl⟩))
  · exact .inr (.inr (.inr ⟨by decide, by decide, by decide, rfl, rfl, rfl⟩))
  · exact .inr (.inr (.inr ⟨by decide, by decide, by decide, rfl, rfl, rfl⟩))
  · exact .inr (.inr (.inr ⟨by decide, by decide, by decide, rfl, rfl, rfl⟩))
  · exact .inr (.inl ⟨rfl, rfl, rfl, rfl⟩)
  · exact .inr (.inr (.inr ⟨by decide, by decide, by decide, rfl, rfl, rfl⟩))
  · exact .inr (.inr (.inr ⟨by decide, by decide, by decide, rfl, rfl, rfl⟩))
  · exact .inl ⟨rfl, rfl, rfl, rfl⟩
  · exact .inr (.inr (.inr ⟨by decide, by decide, by decide, rfl, rfl, rfl⟩))

theorem badI_t {x : Ins} (h : badI x = true) : mayI x ≠ 0 := by
  unfold badI at h
  simpa using h

theorem drop_find {l : List Ins} {i : Nat} (h : i < l.length) : (l.drop i).findIdx badI = if badI l[i] then 0 else (l.drop (i + 1)).findIdx badI + 1 := by
  rw [List.drop_eq_getElem_cons h, List.findIdx_cons]
  cases badI l[i] <;> rfl

def dst (l : List Ins) (w0 : Int) (i : Nat) : ((List Ins) × (List Stp) × Int × Int × Int × Int × Int × Unit) × Unit :=
  (((l, (allR l).1, (allR l).2.1, (allR l).2.2.1, ((i + ((l.take 64).drop i).findIdx badI : Nat) : Int), (if i + ((l.take 64).drop i).findIdx badI < min l.length 64 then mayI (l.getD (i + ((l.take 64).drop i).findIdx badI) insZ) else w0), (i : Int) - 1, ()), ()) : ((List Ins) × (List Stp) × Int × Int × Int × Int × Int × Unit) × Unit)

theorem lists_ok {l : List Ins} (hv : ∀ x ∈ l, okV x.2.2.2.1) : law09_CodeLists l = some ((true, ()), ()) := by
  unfold law09_CodeLists
  by_cases h200 : (l.length : Int) > 200
  · rw [decide_eq_true h200, cond_true, lives_ok]
    rfl
  rw [decide_eq_false h200, cond_false, All_ok hv (by omega), Option.bind_some]
  have hmin : minI (l.length : Int) 64 = ((min l.length 64 : Nat) : Int) := by unfold minI; split <;> omega
  simp only [hmin]
  have hcl : (l.take 64).length = min l.length 64 := by rw [List.length_take, Nat.min_comm]
  have hget : ∀ i (h : i < (l.take 64).length), (l.take 64)[i] = l.getD i insZ := fun i h => by
    rw [List.getElem_take, List.getD_eq_getElem?_getD, List.getElem?_eq_getElem (by rw [List.length_take] at h; omega)]
    rfl
  have hfull : l.length ≤ 64 → l.take 64 = l := fun h => List.take_of_length_le h
  -- what the law's own search has found
  have key : ∀ w0 : Int, w0 = (if 64 < l.length then 2 else 0) → loopR (fun (z : ((List Ins) × (List Stp) × Int × Int × Int × Int × Int × Unit) × (Unit)) => law09_CodeLists_s0 z.1.1 z.1.2.1 z.1.2.2.1 z.1.2.2.2.1 z.1.2.2.2.2.1 z.1.2.2.2.2.2.1 z.1.2.2.2.2.2.2.1) ((l, (allR l).1, (allR l).2.1, (allR l).2.2.1, ((min l.length 64 : Nat) : Int), w0, IntKind.i64.wrap (((min l.length 64 : Nat) : Int) - 1), ()), ()) = some ((true, ()), ()) := by
    intro w0 hw0
    rw [wi64d (by omega)]
    have hat : ∀ i, i ≤ min l.length 64 → i + ((l.take 64).drop i).findIdx badI ≤ min l.length 64 := fun i hi => by
      have := List.findIdx_le_length (p := badI) (xs := (l.take 64).drop i)
      rw [List.length_drop, hcl] at this
      omega
    have hend : ((l.take 64).drop (min l.length 64)).findIdx badI = 0 := by
      rw [List.drop_of_length_le (by omega)]; rfl
    have st0 : ((l, (allR l).1, (allR l).2.1, (allR l).2.2.1, ((min l.length 64 : Nat) : Int), w0, ((min l.length 64 : Nat) : Int) - 1, ()), ()) =
        dst l w0 (min l.length 64) := by
      unfold dst
      rw [hend, Nat.add_zero, if_neg (Nat.lt_irrefl _)]
    rw [st0]
    refine loop_down (dst l w0) (fun i => i ≤ min l.length 64) (fun i hi => .inl ⟨?_, by omega⟩) (fun _ => ?_) _ (Nat.le_refl _)
    · unfold dst
      dsimp only
      unfold law09_CodeLists_s0
      have hic : i < (l.take 64).length := by omega
      have hxi : l[i]'(by omega) = (l.take 64)[i] := by rw [List.getElem_take]
      have hvi : okV (l[i]'(by omega)).2.2.2.1 := hv _ (List.getElem_mem _)
      rw [dpos, cond_true, pm, rdI_nat (show i < l.length by omega), Option.bind_some, refMay_ok hvi, Option.bind_some, drop_find hic, wi64d (by omega)]
      dsimp only
      rw [← hxi]
      by_cases hm : mayI (l[i]'(by omega)) = 0
      · have hb : badI (l[i]'(by omega)) = false := by unfold badI; rw [decide_eq_true hm]; rfl
        rw [decide_eq_true hm, Bool.not_true, cond_false, hb]
        simp only [Bool.false_eq_true, if_false]
        rw [show i + 1 + List.findIdx badI (List.drop (i + 1) (List.take 64 l)) = i + (List.findIdx badI (List.drop (i + 1) (List.take 64 l)) + 1) by omega]
      · have hb : badI (l[i]'(by omega)) = true := by unfold badI; rw [decide_eq_false hm]; rfl
        rw [decide_eq_false hm, Bool.not_false, cond_true, hb, if_pos rfl, Nat.add_zero, if_pos (by omega), ← hget i hic, hxi]
    · unfold dst
      dsimp only
      unfold law09_CodeLists_s0
      rw [show ((0 : Nat) : Int) - 1 = -1 from rfl, show decide ((-1 : Int) ≥ 0) = false from rfl, cond_false, List.drop_zero, Nat.zero_add]
      have hle : (l.take 64).findIdx badI ≤ min l.length 64 := by have := hat 0 (by omega); rwa [List.drop_zero, Nat.zero_add] at this
      unfold allR firstBad
      rw [hcl]
      by_cases hn : (l.take 64).findIdx badI < min l.length 64
      · rw [if_pos hn, if_pos hn]
        have hy : mayI (l.getD ((l.take 64).findIdx badI) insZ) ≠ 0 := by
          have := List.findIdx_getElem (p := badI) (xs := l.take 64) (w := by omega)
          rw [hget _ (by omega)] at this
          exact badI_t this
        simp only [decide_true, Bool.not_true, Bool.not_false, gsome, gtrue, cond_false, cond_true, decide_eq_false hy, List.length_nil, lives_ok, Option.bind_some, Option.map_some]
        rfl
      · rw [if_neg hn, if_neg hn]
        have e : (l.take 64).findIdx badI = min l.length 64 := by omega
        rw [e]
        by_cases h64 : 64 < l.length
        · rw [hw0, if_pos h64, if_pos h64, Nat.min_eq_right (by omega)]
          simp only [decide_true, Bool.not_true, Bool.not_false, gsome, gtrue, cond_false, cond_true, List.length_nil, lives_ok, Option.bind_some, Option.map_some]
          rfl
        · rw [hw0, if_neg h64, if_neg h64, Nat.min_eq_left (by omega)]
          have hgood : ∀ i (h : i < l.length), mayI l[i] = 0 := fun i h => by
            have hf := hfull (by omega)
            rw [hf] at e
            have := List.not_of_lt_findIdx (p := badI) (xs := l) (i := i) (by omega)
            unfold badI at this
            simpa using this
          simp only [decide_true, Bool.not_true, Bool.not_false, gsome, gtrue, cond_false, cond_true, List.length_map]
          have hloop : loopR (fun (z : ((List Ins) × (List Stp) × Int × Unit) × (Unit)) => law09_CodeLists_s2 z.1.1 z.1.2.1 z.1.2.2.1) ((l, l.map stp, 0, ()), ()) = some ((true, ()), ()) := by
            refine loop_up (fun i => ((l, l.map stp, (i : Int), ()), ())) l.length (fun i hi => ?_) ?_ 0 (by omega)
            · exact s2_step (l := l) (by omega) hi (hgood i hi)
            · dsimp only
              unfold law09_CodeLists_s2
              rw [dge, cond_false, lives_ok]
              rfl
          exact congrArg (Option.map _) hloop
  by_cases h64 : (l.length : Int) > 64
  · rw [decide_eq_true h64, cond_true]
    exact key 2 (by rw [if_pos (by omega)])
  · rw [decide_eq_false h64, cond_false]
    exact key 0 (by rw [if_neg (by omega)])

end Go.Proofs.Ytgaeodfbejbbeaa
