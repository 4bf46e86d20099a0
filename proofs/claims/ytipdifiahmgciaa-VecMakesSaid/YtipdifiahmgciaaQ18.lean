/- The functions that the statements reach as plain Lean, and what they compute. -/
import Derived.Test.YtipdifiahmgciaaQ17

namespace Go.L
open Go Go.Pv
set_option maxRecDepth 100000

theorem may_of_lt {w : Int} {x : Nat} (h1 : 1 ≤ w) (h2 : w ≤ 128) (hx : x < 2 ^ w.toNat) : may w x = true := by
  have := bitLen_le hx
  exact decide_eq_true ⟨⟨h1, h2⟩, by omega⟩

theorem lt128 {w : Int} {x : Nat} (h : may w x = true) : x < 340282366920938463463374607431768211456 := by
  obtain ⟨h1, h2, h3⟩ := may_of h
  refine Nat.lt_of_lt_of_le (may_lt h) ?_
  rw [show 340282366920938463463374607431768211456 = 2 ^ 128 from rfl]
  exact Nat.pow_le_pow_right (by omega) (by omega)

theorem moved_down {x k : Nat} (hx : x < 340282366920938463463374607431768211456) : moved x (-(k : Int)) = x / 2 ^ k := by
  unfold moved
  by_cases h0 : k = 0
  · subst h0
    rw [if_pos (by omega), if_pos (by omega), show (-((0 : Nat) : Int)).toNat = 0 from rfl, Nat.pow_zero, Nat.mul_one, Nat.div_one, Nat.mod_eq_of_lt hx]
  · rw [if_neg (by omega), show (-(-(k : Int))).toNat = k by omega]

theorem vec_Slice_ok {W x l k : Nat} (hm : may (W : Int) x = true) (h : l + k < W) : vec_Slice (vw (W : Int) x) ((l + k : Nat) : Int) (l : Int) = some ((vw ((k + 1 : Nat) : Int) (x / 2 ^ l % 2 ^ (k + 1)), 0, ()), ()) := by
  have hpv : ((vw (W : Int) x).1, (vw (W : Int) x).2.1, (vw (W : Int) x).2.2.1, ()) = vw (W : Int) x := rfl
  have hx := lt128 hm
  obtain ⟨h1, h2, h3⟩ := may_of hm
  unfold vec_Slice
  rw [hpv, vec_May_ok hx, Option.bind_some, hm]
  simp only [Bool.not_true, cond_false, gsome]
  rw [show (vw (W : Int) x).1 = (W : Int) from rfl, decide_eq_false (show ¬ (l : Int) < 0 by omega), decide_eq_false (show ¬ (l : Int) > ((l + k : Nat) : Int) by omega)]
  simp only [Bool.not_false, cond_true, cond_false]
  rw [decide_eq_false (show ¬ ((l + k : Nat) : Int) ≥ (W : Int) by omega), cond_false, vec_Word_ok, Option.bind_some]
  dsimp only
  rw [word_Shr_ok hx, Option.bind_some, moved_down hx]
  dsimp only
  rw [show IntKind.i64.wrap (IntKind.i64.wrap (((l + k : Nat) : Int) - (l : Int)) + 1) = ((k + 1 : Nat) : Int) by rw [wrap_i64 (n := ((l + k : Nat) : Int) - (l : Int)) (by omega) (by omega), wrap_i64 (by omega) (by omega)]; omega,
    vec_Cut_ok (by omega) (by omega) (Nat.lt_of_le_of_lt (Nat.div_le_self _ _) hx), Option.bind_some, Int.toNat_natCast]

theorem vec_Shr_ok {W x k : Nat} (hm : may (W : Int) x = true) : vec_Shr (vw (W : Int) x) (k : Int) = some ((vw (W : Int) (x / 2 ^ k % 2 ^ W), 0, ()), ()) := by
  have hpv : ((vw (W : Int) x).1, (vw (W : Int) x).2.1, (vw (W : Int) x).2.2.1, ()) = vw (W : Int) x := rfl
  have hx := lt128 hm
  obtain ⟨h1, h2, h3⟩ := may_of hm
  unfold vec_Shr vec_moved_93d
  rw [hpv, vec_May_ok hx, Option.bind_some, hm]
  simp only [Bool.not_true, cond_false]
  rw [decide_eq_false (show ¬ (k : Int) < 0 by omega), cond_false, vec_Word_ok, Option.bind_some]
  dsimp only
  rw [word_Shr_ok hx, Option.bind_some, moved_down hx, show (vw (W : Int) x).1 = (W : Int) from rfl]
  dsimp only
  rw [vec_Cut_ok h1 h2 (Nat.lt_of_le_of_lt (Nat.div_le_self _ _) hx), Option.bind_some, Int.toNat_natCast]
  rfl

theorem vec_Cast_ok {w : Int} {V x : Nat} (hm : may w x = true) (h1 : 1 ≤ V) (h2 : V ≤ 128) : vec_Cast (vw w x) (V : Int) = some ((vw (V : Int) (x % 2 ^ V), 0, ()), ()) := by
  have hpv : ((vw w x).1, (vw w x).2.1, (vw w x).2.2.1, ()) = vw w x := rfl
  have hx := lt128 hm
  unfold vec_Cast
  rw [hpv, vec_May_ok hx, Option.bind_some, hm]
  simp only [Bool.not_true, cond_false]
  rw [vec_Word_ok, Option.bind_some]
  dsimp only
  rw [vec_Cut_ok (by omega) (by omega) hx, Option.bind_some, Int.toNat_natCast]

theorem vec_Cat_ok {W U x y : Nat} (hm : may (W : Int) x = true) (hm2 : may (U : Int) y = true) (h : W + U ≤ 128) : vec_Cat (vw (W : Int) x) (vw (U : Int) y) = some ((vw ((W + U : Nat) : Int) (x * 2 ^ U + y), 0, ()), ()) := by
  have hpv : ((vw (W : Int) x).1, (vw (W : Int) x).2.1, (vw (W : Int) x).2.2.1, ()) = vw (W : Int) x := rfl
  have hpu : ((vw (U : Int) y).1, (vw (U : Int) y).2.1, (vw (U : Int) y).2.2.1, ()) = vw (U : Int) y := rfl
  have hx := lt128 hm
  have hy := lt128 hm2
  obtain ⟨h1, h2, h3⟩ := may_of hm
  obtain ⟨k1, k2, k3⟩ := may_of hm2
  have hxl := may_lt hm
  have hyl := may_lt hm2
  rw [Int.toNat_natCast] at hxl hyl
  have hsum : x * 2 ^ U + y < 2 ^ (U + W) := by
    have h4 := Nat.mul_le_mul_right (2 ^ U) (show x + 1 ≤ 2 ^ W from hxl)
    rw [← Nat.pow_add, Nat.add_comm W U, Nat.add_mul, Nat.one_mul] at h4
    omega
  have h128 : 2 ^ (U + W) ≤ 340282366920938463463374607431768211456 := by
    rw [show 340282366920938463463374607431768211456 = 2 ^ 128 from rfl]
    exact Nat.pow_le_pow_right (by omega) (by omega)
  have hmv : moved x (U : Int) = x * 2 ^ U := by
    unfold moved
    rw [if_pos (by omega), if_pos (by omega), Int.toNat_natCast, Nat.mod_eq_of_lt (by omega)]
  have hor : x * 2 ^ U ||| y = x * 2 ^ U + y := by
    have := Nat.shiftLeft_add_eq_or_of_lt hyl x
    rw [Nat.shiftLeft_eq] at this
    exact this.symm
  unfold vec_Cat
  rw [hpv, hpu, vec_May_ok hx, Option.bind_some, hm]
  simp only [Bool.not_true, Bool.not_false, gsome, gtrue, cond_true, cond_false]
  rw [vec_May_ok hy, Option.bind_some, hm2]
  simp only [Bool.not_true, cond_false]
  rw [show (vw (W : Int) x).1 = (W : Int) from rfl, show (vw (U : Int) y).1 = (U : Int) from rfl, wrap_i64 (n := (W : Int) + (U : Int)) (by omega) (by omega), decide_eq_false (show ¬ (W : Int) + (U : Int) > 128 by omega), cond_false, vec_Word_ok, Option.bind_some, vec_Word_ok]
  dsimp only
  rw [word_Shl_ok hx, Option.bind_some, Option.bind_some, hmv]
  dsimp only
  rw [word_Or_ok (by omega) hy, Option.bind_some, hor]
  dsimp only
  rw [vec_row_ok, Option.bind_some, show (W : Int) + (U : Int) = ((W + U : Nat) : Int) by omega]

/-! ### a vector's text is read as the vector -/
theorem chr_39 (d : Nat) : chr d ≠ 39 := by unfold chr; split <;> omega

theorem text_short {W : Nat} (h : W < 1000) : (text 10 W).length ≤ 3 := by
  unfold text
  rw [List.length_reverse, List.length_map, D_eq (by omega)]
  by_cases h1 : W / 10 = 0
  · rw [if_pos h1]; simp
  · rw [if_neg h1, D_eq (by omega)]
    by_cases h2 : W / 10 / 10 = 0
    · rw [if_pos h2]; simp
    · rw [if_neg h2, D_eq (by omega), if_pos (by omega)]; simp

theorem vec_Parse_text {W x : Nat} (hm : may (W : Int) x = true) : vec_Parse (text 10 W ++ [39] ++ text 16 x) = some ((vw (W : Int) x, 0, ()), ()) := by
  have hx := lt128 hm
  obtain ⟨h1, h2, h3⟩ := may_of hm
  have hl1 := text_len (b := 10) (w := W) (by omega) (by omega)
  have hl2 := text_len (b := 16) (w := x) (by omega) hx
  have hs3 := text_short (W := W) (by omega)
  have hfind : (List.range (text 10 W ++ [39] ++ text 16 x).length).find? (fun i => decide ((text 10 W ++ [39] ++ text 16 x).getD i 0 = 39)) = some (text 10 W).length := by
    refine List.find?_range_eq_some.2 ⟨?_, ?_, fun j hj => ?_⟩
    · refine decide_eq_true ?_
      simp [List.getD, List.append_assoc]
    · exact List.mem_range.2 (by simp only [List.length_append, List.length_cons, List.length_nil]; omega)
    · have he : (text 10 W ++ [39] ++ text 16 x).getD j 0 = (text 10 W).getD j 0 := by
        rw [List.append_assoc]
        simp [List.getD, List.getElem?_append_left hj]
      have hmem : (text 10 W).getD j 0 ∈ text 10 W := by
        simp only [List.getD, List.getElem?_eq_getElem hj, Option.getD_some]
        exact List.getElem_mem hj
      obtain ⟨d, _, hd⟩ := text_dig (by omega) hmem
      rw [he, hd, decide_eq_false (chr_39 d)]
      rfl
  have e10 : word_Parse (text 10 W) 10 = some ((wp W, 0, ()), ()) := by
    have := word_Parse_ok (b := 10) (l := text 10 W) (by omega) (by omega) (text_ne (by omega)) (by omega)
    rw [read_text (by omega) (by omega) (by omega)] at this
    exact this
  have e16 : word_Parse (text 16 x) 16 = some ((wp x, 0, ()), ()) := by
    have := word_Parse_ok (b := 16) (l := text 16 x) (by omega) (by omega) (text_ne (by omega)) (by omega)
    rw [read_text (by omega) (by omega) hx] at this
    exact this
  have ht : (text 10 W ++ [39] ++ text 16 x).take (text 10 W).length = text 10 W := by
    rw [List.append_assoc, List.take_left]
  have hd : (text 10 W ++ [39] ++ text 16 x).drop ((text 10 W).length + 1) = text 16 x := by
    have : (text 10 W).length + 1 = (text 10 W ++ [39]).length := by simp
    rw [this, List.drop_left]
  unfold vec_Parse
  rw [cut_some (by simp only [List.length_append, List.length_cons, List.length_nil]; omega) hfind, ht, hd, Option.bind_some]
  simp only [Bool.not_true, Bool.not_false, gsome, cond_true, cond_false, decide_eq_false (show ¬ ((text 10 W).length : Int) > 3 by omega), e10, e16, Option.bind_some, decide_true, show decide ((0 : Int) = 4) = false by decide, show decide ((0 : Int) = 3) = false by decide]
  have hw : IntKind.i64.wrap (wp W).2.1 = (W : Int) := by
    show IntKind.i64.wrap ((W % 18446744073709551616 : Nat) : Int) = _
    rw [wrap_i64 (by omega) (by omega)]
    omega
  rw [hw, width_ok, Option.bind_some, decide_eq_true (show 1 ≤ (W : Int) ∧ (W : Int) ≤ 128 from ⟨h1, h2⟩), vec_New_ok h1 h2 hx, decide_eq_true h3]
  rfl

end Go.L
