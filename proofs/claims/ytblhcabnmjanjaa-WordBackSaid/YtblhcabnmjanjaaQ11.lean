/- The functions of this seat, and the laws as plain Lean. -/
import Derived.Test.YtblhcabnmjanjaaQ10

namespace Go.Proofs.Ytblhcabnmjanjaa
open Go Go.Pv Go.Proofs Go.L
set_option maxRecDepth 100000

theorem row_w (w : Nat) : rowB (BitVec.ofNat 128 w) = row w.testBit := row_ext fun i hi => by rw [BitVec.getLsbD_ofNat, decide_eq_true hi, Bool.true_and]

theorem ref01_Moved_n {a : Nat} {n : Int} (ha : a < 340282366920938463463374607431768211456) : ref01_Moved (rowB (BitVec.ofNat 128 a)) n = some ((rowB (BitVec.ofNat 128 (moved a n)), ()), ()) := by
  rw [ref01_Moved_ok, moved_bv ha]

/-- the tail of WordBits -/
theorem bits_tail {a : Nat} {n m : Int} (ha : a < 340282366920938463463374607431768211456) (hm : moved a (-n) = moved a m) :
  ((word_Bit (wp a) n).bind fun r_85 : (Bool × Unit) × Unit =>
  let t120_86 : Bool := decide (n ≥ 0)
  guardR t120_86 (some ()) () fun _ =>
  guardR t120_86 (some (decide (n < 128))) false fun v_87 =>
  let t124_88 : Bool := bif t120_86 then v_87 else false
  guardR t124_88 (some ()) () fun _ =>
  guardR t124_88 (some (maxI n 0)) 0 fun v_89 =>
  guardR t124_88 (some (minI v_89 127)) 0 fun v_90 =>
  guardR t124_88 (Option.map (fun _ => v_90) (ckI v_90 128)) 0 fun v_91 =>
  guardR t124_88 (rdI (rowB (BitVec.ofNat 128 a)) v_91) false fun v_92 =>
  bif (!(decide (r_85.1.1 = (bif t124_88 then v_92 else false)))) then
    some ((false, ()), ())
  else
  (word_Shl (wp a) n).bind fun r_95 =>
  (law01_of r_95.1.1).bind fun r_96 =>
  (ref01_Moved (rowB (BitVec.ofNat 128 a)) n).bind fun r_97 =>
  let t140_98 : Bool := eqLs (fun x y => decide (x = y)) r_96.1.1 r_97.1.1
  guardR t140_98 (some (wp a)) (0, 0, ()) fun v_99 =>
  guardR t140_98 (some ()) () fun _ =>
  guardR t140_98 (word_Shr v_99 n) (((0, 0, ()), ()), ()) fun r_100 =>
  guardR t140_98 (law01_of r_100.1.1) ((List.replicate 128 false, ()), ()) fun r_101 =>
  guardR t140_98 (some (rowB (BitVec.ofNat 128 a))) (List.replicate 128 false) fun v_102 =>
  guardR t140_98 (some ()) () fun _ =>
  guardR t140_98 (ref01_Moved v_102 m) ((List.replicate 128 false, ()), ()) fun r_103 =>
  guardR t140_98 (some ()) () fun _ =>
  let t150_105 : Bool := bif t140_98 then (eqLs (fun x y => decide (x = y)) r_101.1.1 r_103.1.1) else false
  guardR t150_105 law01_lives ((false, ()), ()) fun r_106 =>
  some (((bif t150_105 then r_106.1.1 else false), ()), ())) = some ((true, ()), ()) := by
  have hrest : ((word_Shl (wp a) n).bind fun r_95 : ((Int × Int × Unit) × Unit) × Unit =>
  (law01_of r_95.1.1).bind fun r_96 =>
  (ref01_Moved (rowB (BitVec.ofNat 128 a)) n).bind fun r_97 =>
  let t140_98 : Bool := eqLs (fun x y => decide (x = y)) r_96.1.1 r_97.1.1
  guardR t140_98 (some (wp a)) (0, 0, ()) fun v_99 =>
  guardR t140_98 (some ()) () fun _ =>
  guardR t140_98 (word_Shr v_99 n) (((0, 0, ()), ()), ()) fun r_100 =>
  guardR t140_98 (law01_of r_100.1.1) ((List.replicate 128 false, ()), ()) fun r_101 =>
  guardR t140_98 (some (rowB (BitVec.ofNat 128 a))) (List.replicate 128 false) fun v_102 =>
  guardR t140_98 (some ()) () fun _ =>
  guardR t140_98 (ref01_Moved v_102 m) ((List.replicate 128 false, ()), ()) fun r_103 =>
  guardR t140_98 (some ()) () fun _ =>
  let t150_105 : Bool := bif t140_98 then (eqLs (fun x y => decide (x = y)) r_101.1.1 r_103.1.1) else false
  guardR t150_105 law01_lives ((false, ()), ()) fun r_106 =>
  some (((bif t150_105 then r_106.1.1 else false), ()), ())) = some (((true, ()), ()) : (Bool × Unit) × Unit) := by
    simp only [word_Shl_ok ha, Option.bind_some, of_ok (moved_lt ha n), ref01_Moved_n ha, eqLs_bool, decide_true, gtrue, gsome, cond_true, word_Shr_ok ha, of_ok (moved_lt ha (-n)), of_ok (moved_lt ha m), hm, lives_ok]
  simp only [word_Bit_ok ha, Option.bind_some]
  by_cases h : 0 ≤ n ∧ n < 128
  · obtain ⟨k, rfl⟩ : ∃ k : Nat, n = k := ⟨n.toNat, by omega⟩
    have h1 : maxI (k : Int) 0 = (k : Int) := by unfold maxI; split <;> omega
    have h2 : minI (k : Int) 127 = (k : Int) := by unfold minI; split <;> omega
    have hk : k < 128 := by omega
    simp only [decide_eq_true (show (k : Int) ≥ 0 by omega), decide_eq_true h.2, decide_eq_true h, gsome, gtrue, cond_true, h1, h2, ck_nat hk, row_w, row_rd _ hk, Option.bind_some, Int.toNat_natCast, Bool.true_and, decide_true, Bool.not_true, cond_false]
    simp only [← row_w]
    exact hrest
  · have h0 : (bif decide (n ≥ 0) then (bif decide (n ≥ 0) then decide (n < 128) else false) else false) = false := by
      by_cases h1 : n ≥ 0
      · rw [decide_eq_true h1, decide_eq_false (by omega)]; rfl
      · rw [decide_eq_false h1]; rfl
    simp only [decide_eq_false h, gsome, h0, gfalse, cond_false, Bool.false_and, decide_true, Bool.not_true]
    exact hrest

theorem moved_out {a : Nat} {n : Int} (ha : a < 340282366920938463463374607431768211456) (h : ¬ (n > -128 ∧ n < 128)) : moved a n = 0 := by
  unfold moved
  by_cases h1 : 0 ≤ n
  · rw [if_pos h1, if_neg (by omega)]
  · rw [if_neg h1, div_big ha (by omega)]

theorem bits_ok {a b : Int × Int × Unit} {n : Int} (hA : Wf (.agg (.pair (.int .u64) (.pair (.int .u64) .unit))) a) (hB : Wf (.agg (.pair (.int .u64) (.pair (.int .u64) .unit))) b) (hn : Wf (.int .i64) n) : law01_WordBits a b n = some ((true, ()), ()) := by
  obtain ⟨a, ha, rfl⟩ := word_arg hA
  obtain ⟨b, hb, rfl⟩ := word_arg hB
  unfold law01_WordBits
  have hpa : ((wp a).1, (wp a).2.1, ()) = wp a := rfl
  have hpb : ((wp b).1, (wp b).2.1, ()) = wp b := rfl
  have h128 : ∀ m, m ≤ 128 → 2 ^ m - 1 < 340282366920938463463374607431768211456 := by
    intro m hm
    have := Nat.pow_le_pow_right (n := 2) (by omega) hm
    rw [show 2 ^ 128 = 340282366920938463463374607431768211456 from rfl] at this
    omega
  simp only [hpa, hpb, of_ok ha, of_ok hb, Option.bind_some, word_And_ok ha hb, word_Or_ok ha hb, word_Xor_ok ha hb, word_Not_ok ha, word_Ones_ok,
    of_ok (show a &&& b < 340282366920938463463374607431768211456 from Nat.and_lt_two_pow (n := 128) a hb),
    of_ok (show a ||| b < 340282366920938463463374607431768211456 from Nat.or_lt_two_pow (n := 128) ha hb),
    of_ok (show a ^^^ b < 340282366920938463463374607431768211456 from Nat.xor_lt_two_pow (n := 128) ha hb),
    of_ok (show 340282366920938463463374607431768211455 - a < 340282366920938463463374607431768211456 by omega),
    of_ok (h128 _ (Nat.min_le_right n.toNat 128))]
  refine loop_up (fun i => (((n, (i : Int), ()), rowB (BitVec.ofNat 128 (a ||| b)), rowB (BitVec.ofNat 128 (a ^^^ b)), rowB (BitVec.ofNat 128 (340282366920938463463374607431768211455 - a)), rowB (BitVec.ofNat 128 (2 ^ min n.toNat 128 - 1)), wp a, rowB (BitVec.ofNat 128 a), rowB (BitVec.ofNat 128 b), rowB (BitVec.ofNat 128 (a &&& b)), ()) : (Int × Int × Unit) × ((List Bool) × (List Bool) × (List Bool) × (List Bool) × (Int × Int × Unit) × (List Bool) × (List Bool) × (List Bool) × Unit))) 128 ?_ ?_ 0 (by omega)
  · intro i hi
    dsimp only
    unfold law01_WordBits_s0
    have hcond : ∀ i : Nat, i < 128 → decide (0 ≤ (i : Int) ∧ (i : Int) < 128) = true := fun i h => decide_eq_true (by omega)
    have hnot : (340282366920938463463374607431768211455 - a).testBit i = !a.testBit i := by
      have h := Nat.testBit_two_pow_sub_succ (n := 128) (x := a) ha i
      rw [show 2 ^ 128 - (a + 1) = 340282366920938463463374607431768211455 - a by omega, decide_eq_true hi, Bool.true_and] at h
      exact h
    have hones : (2 ^ min n.toNat 128 - 1).testBit i = decide ((i : Int) < n) := by
      rw [Nat.testBit_two_pow_sub_one]
      exact decide_eq_decide.2 (by omega)
    simp only [decide_eq_true (show (i : Int) < 128 by omega), cond_true, ck_nat hi, row_w, row_rd _ hi, Option.bind_some, hnot, hones, Nat.testBit_and, Nat.testBit_or, Nat.testBit_xor, hpa, word_Bit_ok ha, decide_eq_true (show 0 ≤ (i : Int) ∧ (i : Int) < 128 by omega), Int.toNat_natCast, Bool.true_and, wi64 (show i < 1000000000 by omega)]
    cases hp : a.testBit i <;> cases hq : b.testBit i <;> simp only [hp, hq, hnot, hones, Nat.testBit_and, Nat.testBit_or, Nat.testBit_xor, gsome, gtrue, gfalse, ck_nat hi, row_rd _ hi, Option.bind_some, cond_true, cond_false, Bool.and_false, Bool.and_true, Bool.or_false, Bool.or_true, Bool.true_or, Bool.false_or, Bool.xor_false, Bool.xor_true, Bool.false_xor, Bool.true_xor, Bool.not_true, Bool.not_false, decide_true, decide_false, Bool.and_self, Bool.or_self, Bool.true_and, Bool.false_and, word_Bit_ok ha, Bool.false_eq_true, Bool.true_eq_false, hcond i hi, Int.toNat_natCast]
  · dsimp only
    unfold law01_WordBits_s0
    rw [decide_eq_false (show ¬ ((128 : Nat) : Int) < 128 by omega), cond_false]
    simp only [gsome, hpa]
    by_cases h : n > -128 ∧ n < 128
    · have h0 : (bif decide (n > -128) then (bif decide (n > -128) then decide (n < 128) else false) else false) = true := by
        rw [decide_eq_true h.1, decide_eq_true h.2]
        rfl
      simp only [h0, cond_true]
      have := bits_tail (n := n) (m := IntKind.i64.wrap (0 - n)) ha (by rw [wrap_i64 (by omega) (by omega)]; congr 1; omega)
      simp only [gsome] at this
      rw [this]
      rfl
    · have h0 : (bif decide (n > -128) then (bif decide (n > -128) then decide (n < 128) else false) else false) = false := by
        by_cases h1 : n > -128
        · rw [decide_eq_true h1, decide_eq_false (by omega)]; rfl
        · rw [decide_eq_false h1]; rfl
      simp only [h0, cond_false]
      have := bits_tail (n := n) (m := 128) ha (by rw [moved_out ha (by omega), moved_out ha (by omega)])
      simp only [gsome] at this
      rw [this]
      rfl

theorem orders_ok {a b : Int × Int × Unit} (hA : Wf (.agg (.pair (.int .u64) (.pair (.int .u64) .unit))) a) (hB : Wf (.agg (.pair (.int .u64) (.pair (.int .u64) .unit))) b) : law01_WordOrders a b = some ((true, ()), ()) := by
  obtain ⟨a, ha, rfl⟩ := word_arg hA
  obtain ⟨b, hb, rfl⟩ := word_arg hB
  unfold law01_WordOrders
  have hpa : ((wp a).1, (wp a).2.1, ()) = wp a := rfl
  have hpb : ((wp b).1, (wp b).2.1, ()) = wp b := rfl
  have h128 : ∀ m, m ≤ 128 → 2 ^ m - 1 < 340282366920938463463374607431768211456 := by
    intro m hm
    have := Nat.pow_le_pow_right (n := 2) (by omega) hm
    rw [show 2 ^ 128 = 340282366920938463463374607431768211456 from rfl] at this
    omega
  have hc1 : decide (cmp a b < -1) = false := decide_eq_false (by unfold cmp; split <;> (try split) <;> omega)
  have hc2 : decide (cmp a b > 1) = false := decide_eq_false (by unfold cmp; split <;> (try split) <;> omega)
  have hc3 : (decide (cmp b a = IntKind.i64.wrap (0 - cmp a b))) = true := decide_eq_true (by
    have : IntKind.i64.wrap (0 - cmp a b) = 0 - cmp a b := wrap_i64 (by unfold cmp; split <;> (try split) <;> omega) (by unfold cmp; split <;> (try split) <;> omega)
    rw [this]
    unfold cmp; split <;> split <;> (try split) <;> (try split) <;> omega)
  have hc4 : decide (decide (cmp a b = 0) = decide (a = b)) = true := decide_eq_true (decide_eq_decide.2 (by unfold cmp; split <;> (try split) <;> omega))
  have hc5 : decide (decide (cmp a b < 0) = decide (a < b)) = true := decide_eq_true (decide_eq_decide.2 (by unfold cmp; split <;> (try split) <;> omega))
  have htb : (BitVec.ofNat 128 b).toNat = b := by rw [BitVec.toNat_ofNat, Nat.mod_eq_of_lt (show b < 2 ^ 128 by omega)]
  have hta : (BitVec.ofNat 128 a).toNat = a := by rw [BitVec.toNat_ofNat, Nat.mod_eq_of_lt (show a < 2 ^ 128 by omega)]
  have hL : bitLen a ≤ 128 := bitLen_le (by rw [show 2 ^ 128 = 340282366920938463463374607431768211456 from rfl]; exact ha)
  obtain ⟨hl1, hl2⟩ := bitLen_spec a
  have e1 : decide ((bitLen a : Int) < 0) = false := decide_eq_false (by omega)
  have e2 : decide ((bitLen a : Int) > 128) = false := decide_eq_false (by omega)
  have e3 : decide (cmp a (2 ^ bitLen a - 1) ≤ 0) = true := decide_eq_true (by unfold cmp; split <;> (try split) <;> omega)
  simp only [hpa, hpb, word_Cmp_ok ha hb, word_Cmp_ok hb ha, Option.bind_some, hc1, gsome, hc2, hc3, cond_false, cond_true, Bool.not_false, Bool.not_true, gtrue, wp_dec, hc4, of_ok ha, of_ok hb, ref01_Less_ok, hc5, word_Len_ok ha, ref01_Len_ok, hta, htb, e1, e2, decide_true, word_Ones_ok, Int.toNat_natCast, Nat.min_eq_left hL, word_Cmp_ok ha (h128 _ hL), e3, Bool.true_and]
  by_cases h0 : bitLen a = 0
  · simp only [h0, decide_eq_true (show ((0 : Nat) : Int) = 0 from rfl), gsome, Bool.not_true, gfalse, cond_true, gtrue, lives_ok, Option.bind_some]
  · have e4 : decide ((bitLen a : Int) = 0) = false := decide_eq_false (by omega)
    have e5 : (IntKind.i64.wrap ((bitLen a : Int) - 1)).toNat = bitLen a - 1 := by rw [wrap_i64 (by omega) (by omega)]; omega
    have h3 : 2 ^ (bitLen a - 1) ≤ a := by rcases hl2 with h | h; exact absurd h h0; exact h
    have hp := Nat.two_pow_pos (bitLen a - 1)
    have e6 : decide (cmp a (2 ^ (bitLen a - 1) - 1) > 0) = true := decide_eq_true (by unfold cmp; split <;> (try split) <;> omega)
    simp only [e4, e5, gsome, Bool.not_false, cond_true, cond_false, gtrue, Nat.min_eq_left (show bitLen a - 1 ≤ 128 by omega), word_Cmp_ok ha (h128 _ (show bitLen a - 1 ≤ 128 by omega)), Option.bind_some, e6, lives_ok]

end Go.Proofs.Ytblhcabnmjanjaa
