/- The functions of this seat, and the laws as plain Lean. -/
import Derived.Test.YtblhcabnmjanjaaQ12

namespace Go.Proofs.Ytblhcabnmjanjaa
open Go Go.Pv Go.Proofs Go.L
set_option maxRecDepth 100000

theorem base_bad {b : Int} (h : ¬ (2 ≤ b ∧ b ≤ 16)) : (bif decide (b < 2) then true else (bif !decide (b < 2) then decide (b > 16) else false)) = true := by
  by_cases h1 : b < 2
  · rw [decide_eq_true h1]; rfl
  · rw [decide_eq_false h1, decide_eq_true (by omega)]; rfl

theorem texts_ok {a : Int × Int × Unit} {s : List Int} {b : Int} (hA : Wf (.agg (.pair (.int .u64) (.pair (.int .u64) .unit))) a) : law01_WordTexts a s b = some ((true, ()), ()) := by
  obtain ⟨a, ha, rfl⟩ := word_arg hA
  unfold law01_WordTexts
  have hpa : ((wp a).1, (wp a).2.1, ()) = wp a := rfl
  by_cases hl : (s.length : Int) > 300
  · rw [decide_eq_true hl, cond_true, lives_ok]
    rfl
  · rw [decide_eq_false hl, cond_false]
    obtain ⟨w, c, hw, e1, e2, hc⟩ := parses (l := s) (b := b) (by omega)
    simp only [e1, e2, Option.bind_some, decide_true, Bool.not_true, Bool.not_false, gsome, cond_true, cond_false, gtrue, of_ok hw, eqLs_bool]
    by_cases h : 2 ≤ b ∧ b ≤ 16
    · obtain ⟨k, rfl⟩ : ∃ k : Nat, b = k := ⟨b.toNat, by omega⟩
      simp only [decide_eq_false (show ¬ (k : Int) < 2 by omega), decide_eq_false (show ¬ (k : Int) > 16 by omega), Bool.not_false, cond_true, cond_false, hpa, word_Text_ok ha (show 2 ≤ k by omega) (show k ≤ 16 by omega), Option.bind_some, of_ok ha, ref01_Text_ok ha (show 2 ≤ k by omega) (show k ≤ 16 by omega), decide_true, gtrue, lives_ok]
    · rw [base_bad h, cond_true, hpa, word_Text_base h]
      simp only [Option.bind_some, decide_true, cond_true, hc h, gtrue, lives_ok]

theorem back_ok {a : Int × Int × Unit} {b : Int} (hA : Wf (.agg (.pair (.int .u64) (.pair (.int .u64) .unit))) a) : law01_WordBack a b = some ((true, ()), ()) := by
  obtain ⟨w, hw, rfl⟩ := word_arg hA
  unfold law01_WordBack
  have hpa : ((wp w).1, (wp w).2.1, ()) = wp w := rfl
  simp only [gsome]
  by_cases h : 2 ≤ b ∧ b ≤ 16
  · obtain ⟨k, rfl⟩ : ∃ k : Nat, b = k := ⟨b.toNat, by omega⟩
    have hk : 2 ≤ k := by omega
    have hk2 : k ≤ 16 := by omega
    have hlen := text_len hk hw
    have hne := text_ne (w := w) hk
    have hcat : catI [48, 48] (text k w) = some ([48, 48] ++ text k w) := by
      unfold catI
      rw [if_pos (by simp only [List.length_cons, List.length_nil]; omega)]
    simp only [decide_eq_false (show ¬ (k : Int) < 2 by omega), decide_eq_false (show ¬ (k : Int) > 16 by omega), Bool.not_false, cond_true, cond_false, hpa, word_Text_ok hw hk hk2, Option.bind_some, word_Parse_ok hk hk2 hne (by omega), hcat, word_Parse_ok hk hk2 (show [48, 48] ++ text k w ≠ [] by simp) (by simp only [List.length_append, List.length_cons, List.length_nil]; omega), read_text hk hk2 hw, read_zeros hk hk2 hw]
    have hstop : law01_WordBack_s0 (k : Int) (text k w) 0 0 ((text k w).map up) ((text k w).length : Int) (wp w) (wp w) (wp w) = some (.inr ((true, ()), ())) := by
      unfold law01_WordBack_s0
      have hmap : (text k w).map up ≠ [] := by simpa using hne
      have hm : (340282366920938463463374607431768211455 : Nat) < 340282366920938463463374607431768211456 := by omega
      have hlm := text_len hk hm
      have hcat2 : catI (text k 340282366920938463463374607431768211455) [48] = some (text k 340282366920938463463374607431768211455 ++ [48]) := by
        unfold catI
        rw [if_pos (by simp only [List.length_cons, List.length_nil]; omega)]
      rw [decide_eq_false (show ¬ ((text k w).length : Int) < (((text k w).map up).length : Int) by rw [List.length_map]; omega), cond_false, word_Parse_ok hk hk2 hmap (by rw [List.length_map]; omega), Option.bind_some, read_up hk hk2 hw, wp0, word_Not_ok (by omega), Option.bind_some]
      dsimp only
      rw [Nat.sub_zero, word_Text_ok hm hk hk2, Option.bind_some]
      dsimp only
      rw [hcat2, Option.bind_some, word_Parse_ok hk hk2 (by simp) (by simp only [List.length_append, List.length_cons, List.length_nil]; omega), Option.bind_some, read_more hk hk2, decide_eq_false hne, cond_false]
      simp only [decide_true, Bool.and_self, gsome, gtrue, cond_true, Bool.true_and]
      obtain ⟨d, r, e, hd, h1, h2⟩ := text_head hk w
      by_cases hw0 : w = 0
      · rw [e, h2 hw0]
        simp only [List.length_cons, List.length_nil, Nat.zero_add, decide_eq_true (show ((1 : Nat) : Int) = 1 from rfl), decide_true, Bool.not_true, gfalse, cond_true, gtrue, lives_ok, Option.bind_some, Option.map_some]
      · have hd0 := h1 (by omega)
        have hc : chr d ≠ 48 := by unfold chr; split <;> omega
        have hrd : rdI (text k w) 0 = some (chr d) := by rw [e]; rfl
        rw [hrd]
        by_cases hl : ((text k w).length : Int) = 1
        · simp only [decide_eq_true hl, Bool.not_true, gfalse, cond_true, gtrue, lives_ok, Option.bind_some, Option.map_some]
        · simp only [decide_eq_false hl, Bool.not_false, gtrue, cond_true, cond_false, lives_ok, Option.bind_some, Option.map_some, decide_eq_false hc]
    have hrow : text k w = lrow (text k w).length fun j => (text k w).getD j 0 := lrow_of _ _
    have hmapr : (text k w).map up = lrow (text k w).length fun j => up ((text k w).getD j 0) := by
      conv => lhs; rw [hrow]
      unfold lrow
      rw [List.map_map]
      rfl
    have main := loop_up (f := fun (z : (Int × (List Int) × Int × Int × (List Int) × Int × Unit) × ((Int × Int × Unit) × (Int × Int × Unit) × (Int × Int × Unit) × Unit)) => law01_WordBack_s0 z.1.1 z.1.2.1 z.1.2.2.1 z.1.2.2.2.1 z.1.2.2.2.2.1 z.1.2.2.2.2.2.1 z.2.1 z.2.2.1 z.2.2.2.1) (fun i => (((k : Int), text k w, 0, 0, lrow (text k w).length (fun j => if j < i then up ((text k w).getD j 0) else (text k w).getD j 0), (i : Int), ()), wp w, wp w, wp w, ())) (text k w).length (r := ((true, ()), ())) ?_ ?_ 0 (by omega)
    · have e0 : lrow (text k w).length (fun j => if j < 0 then up ((text k w).getD j 0) else (text k w).getD j 0) = text k w := by
        conv => rhs; rw [hrow]
        exact lrow_ext fun j hj => by rw [if_neg (by omega)]
      rw [e0] at main
      exact main
    · intro i hi
      dsimp only
      unfold law01_WordBack_s0
      have hmem : (text k w).getD i 0 ∈ text k w := by
        simp only [List.getD, List.getElem?_eq_getElem hi, Option.getD_some]
        exact List.getElem_mem hi
      obtain ⟨d, hd, ed⟩ := text_dig hk hmem
      rw [lrow_len, decide_eq_true (show (i : Int) < ((text k w).length : Int) by omega), cond_true, ck_nat hi, lrow_rd _ hi, Option.bind_some, if_neg (by omega), wi64 (by omega)]
      by_cases h97 : 97 ≤ (text k w).getD i 0
      · rw [decide_eq_true (show (text k w).getD i 0 ≥ 97 from h97), cond_true, ck_nat hi, lrow_rd _ hi, Option.bind_some, if_neg (show ¬ i < i by omega), ck_nat hi, lrow_st _ hi, Option.bind_some]
        have : lrow (text k w).length (fun j => bif Nat.beq j i then IntKind.u8.wrap ((text k w).getD i 0 - 32) else if j < i then up ((text k w).getD j 0) else (text k w).getD j 0) = lrow (text k w).length (fun j => if j < i + 1 then up ((text k w).getD j 0) else (text k w).getD j 0) := by
          refine lrow_ext fun j hj => ?_
          by_cases e : j = i
          · subst e
            rw [Nat.beq_refl, cond_true, if_pos (by omega), ed]
            exact up_chr d (by omega) (by rw [← ed]; exact h97)
          · rw [nbeq e, cond_false]
            by_cases e2 : j < i
            · rw [if_pos e2, if_pos (by omega)]
            · rw [if_neg e2, if_neg (by omega)]
        rw [this]
      · rw [decide_eq_false (show ¬ (text k w).getD i 0 ≥ 97 from h97), cond_false]
        have : lrow (text k w).length (fun j => if j < i then up ((text k w).getD j 0) else (text k w).getD j 0) = lrow (text k w).length (fun j => if j < i + 1 then up ((text k w).getD j 0) else (text k w).getD j 0) := by
          refine lrow_ext fun j hj => ?_
          by_cases e : j = i
          · subst e
            rw [if_neg (by omega), if_pos (by omega)]
            unfold up
            rw [if_neg h97]
          · by_cases e2 : j < i
            · rw [if_pos e2, if_pos (by omega)]
            · rw [if_neg e2, if_neg (by omega)]
        rw [this]
    · dsimp only
      have : lrow (text k w).length (fun j => if j < (text k w).length then up ((text k w).getD j 0) else (text k w).getD j 0) = (text k w).map up := by
        rw [hmapr]
        exact lrow_ext fun j hj => by rw [if_pos hj]
      rw [this]
      exact hstop
  · rw [hpa, word_Text_base h, Option.bind_some, base_bad h, cond_true]
    simp only [Option.bind_some, decide_true, gtrue, cond_true, lives_ok]

end Go.Proofs.Ytblhcabnmjanjaa
