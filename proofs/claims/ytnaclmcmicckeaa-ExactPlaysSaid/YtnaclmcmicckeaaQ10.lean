/- The functions that the statements reach as plain Lean, and what they compute. -/
import Derived.Test.YtnaclmcmicckeaaQ9

set_option linter.unusedSimpArgs false
set_option linter.unusedVariables false

namespace Go.L
open Go Go.Pv
set_option maxRecDepth 100000

theorem div_big {a n : Nat} (ha : a < 340282366920938463463374607431768211456) (h : 128 ≤ n) : a / 2 ^ n = 0 :=
  Nat.div_eq_of_lt (Nat.lt_of_lt_of_le ha (by rw [show 340282366920938463463374607431768211456 = 2 ^ 128 from rfl]; exact Nat.pow_le_pow_right (by omega) h))

theorem moved_lt {a : Nat} (ha : a < 340282366920938463463374607431768211456) (n : Int) : moved a n < 340282366920938463463374607431768211456 := by
  unfold moved
  split
  · split
    · exact Nat.mod_lt _ (by omega)
    · omega
  · exact Nat.lt_of_le_of_lt (Nat.div_le_self _ _) ha

theorem shl_g_neg {F G : (Int × Int × Unit) → Int → Option (((Int × Int × Unit) × Unit) × (Unit))} {a : Nat} {n : Int} (ha : a < 340282366920938463463374607431768211456) (hn : n < 0) (hG : ∀ k : Nat, G (wp a) (k : Int) = some ((wp (a / 2 ^ k), ()), ())) : word_Shl_g F G (wp a) n = some ((wp (a / 2 ^ (-n).toNat), ()), ()) := by
  have hpa : ((wp a).1, (wp a).2.1, ()) = wp a := rfl
  unfold word_Shl_g
  simp only [gsome]
  by_cases h : n ≤ -128
  · rw [decide_eq_true h, cond_true, cond_true, div_big ha (by omega)]
    rfl
  · rw [decide_eq_false h, Bool.not_false, cond_true, cond_false, decide_eq_false (show ¬ n ≥ 128 by omega), cond_false, decide_eq_true hn, cond_true, hpa, show IntKind.i64.wrap (0 - n) = (((-n).toNat : Nat) : Int) by rw [wrap_i64 (by omega) (by omega)]; omega, hG]
    rfl

theorem shr_g_neg {F G : (Int × Int × Unit) → Int → Option (((Int × Int × Unit) × Unit) × (Unit))} {a : Nat} {n : Int} (hn : n < 0) (hF : ∀ k : Nat, F (wp a) (k : Int) = some ((wp (if k < 128 then a * 2 ^ k % 340282366920938463463374607431768211456 else 0), ()), ())) : word_Shr_g F G (wp a) n = some ((wp (if -n < 128 then a * 2 ^ (-n).toNat % 340282366920938463463374607431768211456 else 0), ()), ()) := by
  have hpa : ((wp a).1, (wp a).2.1, ()) = wp a := rfl
  unfold word_Shr_g
  simp only [gsome]
  by_cases h : n ≤ -128
  · rw [decide_eq_true h, cond_true, cond_true, if_neg (by omega)]
    rfl
  · rw [decide_eq_false h, Bool.not_false, cond_true, cond_false, decide_eq_false (show ¬ n ≥ 128 by omega), cond_false, decide_eq_true hn, cond_true, hpa, show IntKind.i64.wrap (0 - n) = (((-n).toNat : Nat) : Int) by rw [wrap_i64 (by omega) (by omega)]; omega, hF, if_pos (show (-n).toNat < 128 by omega), if_pos (show -n < 128 by omega)]
    rfl

theorem word_Shl_ok {a : Nat} {n : Int} (ha : a < 340282366920938463463374607431768211456) : word_Shl (wp a) n = some ((wp (moved a n), ()), ()) := by
  show word_Shl_g (word_Shr_lv 2).1 (word_Shr_g (word_Shr_lv 1).1 (word_Shr_lv 1).2) (wp a) n = _
  unfold moved
  by_cases h : 0 ≤ n
  · obtain ⟨k, rfl⟩ : ∃ k : Nat, n = k := ⟨n.toNat, by omega⟩
    rw [shl_g_ok ha, if_pos h, Int.toNat_natCast]
    by_cases h2 : k < 128
    · rw [if_pos h2, if_pos (by omega)]
    · rw [if_neg h2, if_neg (by omega)]
  · rw [if_neg h, shl_g_neg ha (by omega) fun k => shr_g_ok ha]

theorem word_Shr_ok {a : Nat} {n : Int} (ha : a < 340282366920938463463374607431768211456) : word_Shr (wp a) n = some ((wp (moved a (-n)), ()), ()) := by
  show word_Shr_g (word_Shl_g (word_Shr_lv 1).1 (word_Shr_lv 1).2) (word_Shr_lv 2).2 (wp a) n = _
  unfold moved
  by_cases h : n < 0
  · rw [shr_g_neg h fun k => shl_g_ok ha, if_pos (show 0 ≤ -n by omega)]
  · obtain ⟨k, rfl⟩ : ∃ k : Nat, n = k := ⟨n.toNat, by omega⟩
    rw [shr_g_ok ha]
    by_cases h2 : k = 0
    · subst h2
      rw [if_pos (by omega), if_pos (by omega), show (-((0 : Nat) : Int)).toNat = 0 by omega, Nat.pow_zero, Nat.mul_one, Nat.div_one, Nat.mod_eq_of_lt ha]
    · rw [if_neg (by omega), show (-(-(k : Int))).toNat = k by omega]

/-- what the reference's move makes, as the same number -/
theorem moved_bv {a : Nat} {n : Int} (ha : a < 340282366920938463463374607431768211456) : (if 0 ≤ n ∧ n < 128 then BitVec.ofNat 128 a <<< n.toNat else if -128 < n ∧ n < 0 then BitVec.ofNat 128 a >>> (-n).toNat else 0) = BitVec.ofNat 128 (moved a n) := by
  unfold moved
  apply BitVec.eq_of_toNat_eq
  by_cases h : 0 ≤ n
  · by_cases h2 : n < 128
    · rw [if_pos ⟨h, h2⟩, if_pos h, if_pos h2, BitVec.toNat_shiftLeft, BitVec.toNat_ofNat, BitVec.toNat_ofNat, Nat.shiftLeft_eq, Nat.mod_mul_mod]
      exact (Nat.mod_mod _ _).symm
    · rw [if_neg (by omega), if_neg (by omega), if_pos h, if_neg h2]
      rfl
  · rw [if_neg (by omega), if_neg h]
    by_cases h2 : -128 < n
    · rw [if_pos (by omega), BitVec.toNat_ushiftRight, BitVec.toNat_ofNat, BitVec.toNat_ofNat, Nat.shiftRight_eq_div_pow, Nat.mod_eq_of_lt (show a < 2 ^ 128 from ha), Nat.mod_eq_of_lt (show a / 2 ^ (-n).toNat < 2 ^ 128 from Nat.lt_of_le_of_lt (Nat.div_le_self _ _) ha)]
    · rw [if_neg (by omega), div_big ha (by omega)]
      rfl

theorem wp0 : ((0, 0, ()) : Int × Int × Unit) = wp 0 := rfl
theorem wp1 : ((0, 1, ()) : Int × Int × Unit) = wp 1 := rfl

theorem word_Ones_ok {n : Int} : word_Ones n = some ((wp (2 ^ min n.toNat 128 - 1), ()), ()) := by
  unfold word_Ones
  by_cases h : n ≤ 0
  · rw [decide_eq_true h, cond_true, show n.toNat = 0 by omega]
    rfl
  · rw [decide_eq_false h, cond_false]
    by_cases h2 : n ≥ 128
    · rw [decide_eq_true h2, cond_true, wp0, word_Not_ok (by omega), Nat.min_eq_right (by omega)]
      rfl
    · rw [decide_eq_false h2, cond_false, wp1, word_Shl_ok (by omega)]
      dsimp only [Option.bind_some]
      have hm : moved 1 n = 2 ^ n.toNat := by
        unfold moved
        rw [if_pos (by omega), if_pos (by omega), Nat.one_mul]
        refine Nat.mod_eq_of_lt ?_
        rw [show 340282366920938463463374607431768211456 = 2 ^ 128 from rfl]
        exact Nat.pow_lt_pow_right (by omega) (by omega)
      rw [word_Sub_ok (moved_lt (by omega) n) (by omega), hm, Nat.min_eq_left (by omega)]
      dsimp only [Option.bind_some]
      have hp := Nat.two_pow_pos n.toNat
      have hl : 2 ^ n.toNat < 340282366920938463463374607431768211456 := by
        rw [← hm]; exact moved_lt (by omega) n
      rw [show (2 ^ n.toNat + (340282366920938463463374607431768211456 - 1)) % 340282366920938463463374607431768211456 = 2 ^ n.toNat - 1 by omega]

theorem and1 {x : Nat} (hx : x < 18446744073709551616) : bitsI .and .u64 (x : Int) 1 = ((x % 2 : Nat) : Int) := by
  have h := and64 (y := 1) hx (by omega)
  rw [Nat.and_one_is_mod] at h
  exact h

theorem word_Bit_ok {a : Nat} (ha : a < 340282366920938463463374607431768211456) (i : Int) : word_Bit (wp a) i = some ((decide (0 ≤ i ∧ i < 128) && a.testBit i.toNat, ()), ()) := by
  have hpa : ((wp a).1, (wp a).2.1, ()) = wp a := rfl
  unfold word_Bit
  simp only [gsome]
  by_cases h : 0 ≤ i ∧ i < 128
  · rw [decide_eq_true (show i ≥ 0 from h.1), decide_eq_true h.2, decide_eq_true h]
    simp only [cond_true, gtrue, hpa, Option.bind_some]
    rw [word_Shr_ok ha, Option.bind_some]
    have hm : moved a (-i) = a / 2 ^ i.toNat := by
      unfold moved
      by_cases h0 : i = 0
      · subst h0
        rw [if_pos (by omega), if_pos (by omega), show (-(0 : Int)).toNat = 0 from rfl, show (0 : Int).toNat = 0 from rfl, Nat.pow_zero, Nat.mul_one, Nat.div_one, Nat.mod_eq_of_lt ha]
      · rw [if_neg (by omega), show (-(-i)).toNat = i.toNat by omega]
    rw [hm]
    generalize hq : a / 2 ^ i.toNat = q
    have hqb : a.testBit i.toNat = decide (q % 2 = 1) := by rw [← hq]; exact Nat.testBit_eq_decide_div_mod_eq
    show some ((decide (bitsI .and .u64 ((q % 18446744073709551616 : Nat) : Int) 1 = 1), ()), ()) = _
    rw [and1 (Nat.mod_lt _ (by omega)), Bool.true_and, hqb]
    congr 3
    exact decide_eq_decide.2 (by omega)
  · rw [decide_eq_false h, Bool.false_and]
    have : (bif decide (i ≥ 0) then (bif decide (i ≥ 0) then decide (i < 128) else false) else false) = false := by
      by_cases h1 : i ≥ 0
      · rw [decide_eq_true h1, decide_eq_false (by omega)]; rfl
      · rw [decide_eq_false h1]; rfl
    simp only [this, gfalse, cond_false]

theorem wp_eqb (a b : Nat) : (decide ((wp a).1 = (wp b).1) && decide ((wp a).2.1 = (wp b).2.1)) = decide (a = b) := by
  rw [← Bool.decide_and]
  refine decide_eq_decide.2 ⟨fun h => wp_inj (Prod.ext h.1 (Prod.ext h.2 rfl)), fun h => by rw [h]; exact ⟨rfl, rfl⟩⟩

/-- below, equal, above -/
def cmp (a b : Nat) : Int := if a = b then 0 else if a < b then -1 else 1

theorem word_Cmp_ok {a b : Nat} (ha : a < 340282366920938463463374607431768211456) (hb : b < 340282366920938463463374607431768211456) : word_Cmp (wp a) (wp b) = some ((cmp a b, ()), ()) := by
  have hpa : ((wp a).1, (wp a).2.1, ()) = wp a := rfl
  have hpb : ((wp b).1, (wp b).2.1, ()) = wp b := rfl
  unfold word_Cmp cmp
  rw [hpa, hpb, word_Sub_ok ha hb, Option.bind_some, wp_eqb]
  dsimp only
  by_cases h : a = b
  · rw [decide_eq_true h, cond_true, if_pos h]
  · rw [decide_eq_false h, cond_false, if_neg h]
    by_cases h2 : a < b
    · rw [decide_eq_true h2, cond_true, if_pos h2]
    · rw [decide_eq_false h2, cond_false, if_neg h2]

theorem word_Len_ok {a : Nat} (ha : a < 340282366920938463463374607431768211456) : word_Len (wp a) = some (((bitLen a : Int), ()), ()) := by
  unfold word_Len
  by_cases h : 18446744073709551616 ≤ a
  · rw [decide_eq_true (show (wp a).1 > 0 by show (((a / 18446744073709551616 : Nat)) : Int) > 0; omega), cond_true]
    show (bits_Len64 ((a / 18446744073709551616 : Nat) : Int)).bind _ = _
    rw [bits_Len64_ok (by omega), Option.bind_some]
    dsimp only
    have h1 := bitLen_shift (n := a) (k := 64) (by rw [show 2 ^ 64 = 18446744073709551616 from rfl]; exact h)
    rw [show 2 ^ 64 = 18446744073709551616 from rfl] at h1
    have h2 : bitLen (a / 18446744073709551616) ≤ 64 := bitLen_le (by rw [show 2 ^ 64 = 18446744073709551616 from rfl]; omega)
    rw [h1, show (64 : Int) + (bitLen (a / 18446744073709551616) : Int) = ((64 : Nat) : Int) + (bitLen (a / 18446744073709551616) : Int) from rfl, wadd (by omega)]
  · rw [decide_eq_false (show ¬ (wp a).1 > 0 by show ¬ (((a / 18446744073709551616 : Nat)) : Int) > 0; omega), cond_false]
    show (bits_Len64 ((a % 18446744073709551616 : Nat) : Int)).bind _ = _
    rw [Nat.mod_eq_of_lt (by omega), bits_Len64_ok (by omega), Option.bind_some]

end Go.L

namespace Go.L
open Go Go.Pv
set_option maxRecDepth 100000

theorem lrow_succ {α : Type} (n : Nat) (f : Nat → α) : lrow (n + 1) f = lrow n f ++ [f n] := by unfold lrow; rw [List.range_succ, List.map_append]; rfl
theorem lrow_zero {α : Type} (f : Nat → α) : lrow 0 f = [] := rfl
theorem lrow_add {α : Type} (m n : Nat) (f : Nat → α) : lrow (m + n) f = lrow m f ++ lrow n (fun j => f (m + j)) := by
  unfold lrow
  rw [List.range_add, List.map_append, List.map_map]
  rfl

theorem roomI_ok {α : Type} {xs ys : List α} (h : xs.length + ys.length ≤ 1000000000) : roomI 1 xs ys = some (xs ++ ys) := by
  unfold roomI
  rw [if_pos (by omega)]

theorem row_w (w : Nat) : rowB (BitVec.ofNat 128 w) = row w.testBit := row_ext fun i hi => by rw [BitVec.getLsbD_ofNat, decide_eq_true hi, Bool.true_and]

theorem wu8 (n : Int) : IntKind.u8.wrap n = n % 256 := by
  simp only [IntKind.wrap, IntKind.signed, IntKind.bits]
  simp

/-! ### vectors -/
def vw (w : Int) (x : Nat) : Int × Int × Int × Unit := (w, (wp x).1, (wp x).2.1, ())

theorem vw_of {v : Int × Int × Int × Unit} (h2 : inR .u64 v.2.1 = true) (h3 : inR .u64 v.2.2.1 = true) : ∃ x, x < 340282366920938463463374607431768211456 ∧ v = vw v.1 x := by
  obtain ⟨x, hx, e⟩ := wp_of h2 h3
  refine ⟨x, hx, ?_⟩
  unfold vw
  rw [← e]

/-- a vector's width and value are fit -/
def may (w : Int) (x : Nat) : Bool := decide ((1 ≤ w ∧ w ≤ 128) ∧ (bitLen x : Int) ≤ w)

theorem may_of {w : Int} {x : Nat} (h : may w x = true) : 1 ≤ w ∧ w ≤ 128 ∧ (bitLen x : Int) ≤ w := by
  have := of_decide_eq_true h
  omega

theorem vec_May_ok {w : Int} {x : Nat} (hx : x < 340282366920938463463374607431768211456) : vec_May (vw w x) = some ((may w x, ()), ()) := by
  unfold vec_May vec_width may vw
  simp only [gsome, Option.bind_some]
  by_cases h : 1 ≤ w ∧ w ≤ 128
  · simp only [decide_eq_true (show w ≥ 1 from h.1), decide_eq_true h.2, cond_true, gtrue]
    show ((vec_Word (w, (wp x).1, (wp x).2.1, ())).bind fun r_3 => (word_Len r_3.1.1).bind fun r_4 => some ((decide (r_4.1.1 ≤ w), ()), ())) = _
    unfold vec_Word
    rw [Option.bind_some]
    show ((word_Len (wp x)).bind fun r_4 => some ((decide (r_4.1.1 ≤ w), ()), ())) = _
    rw [word_Len_ok hx, Option.bind_some]
    congr 3
    exact decide_eq_decide.2 ⟨fun h2 => ⟨h, h2⟩, fun h2 => h2.2⟩
  · have e : (bif decide (w ≥ 1) then (bif decide (w ≥ 1) then decide (w ≤ 128) else false) else false) = false := by
      by_cases h : w ≥ 1
      · rw [decide_eq_true h, decide_eq_false (by omega)]; rfl
      · rw [decide_eq_false h]; rfl
    simp only [e, gfalse, cond_false]
    rw [decide_eq_false (fun h2 => h h2.1)]

theorem ref02_May_ok {w : Int} {x : Nat} (hx : x < 340282366920938463463374607431768211456) : ref02_May (vw w x) = some ((may w x, ()), ()) := by
  unfold ref02_May may vw
  simp only [gsome]
  by_cases h : 1 ≤ w ∧ w ≤ 128
  · simp only [decide_eq_true (show w ≥ 1 from h.1), decide_eq_true h.2, cond_true, gtrue]
    rw [of_wp hx, Option.bind_some]
    dsimp only
    rw [ref01_Len_ok, Option.bind_some, BitVec.toNat_ofNat, Nat.mod_eq_of_lt (show x < 2 ^ 128 from hx)]
    congr 3
    exact decide_eq_decide.2 ⟨fun h2 => ⟨h, h2⟩, fun h2 => h2.2⟩
  · have hr : may w x = false := decide_eq_false (fun h2 => h h2.1)
    unfold may at hr
    rw [hr]
    by_cases h1 : w ≥ 1
    · simp only [decide_eq_true h1, cond_true, decide_eq_false (show ¬ w ≤ 128 by omega), gfalse, cond_false]
    · simp only [decide_eq_false h1, cond_false, gfalse]

theorem ref02_Bits_ok {w : Int} {x : Nat} (hx : x < 340282366920938463463374607431768211456) : ref02_Bits (vw w x) = some ((lrow (min w 128).toNat x.testBit, ()), ()) := by
  unfold ref02_Bits vw
  dsimp only
  rw [of_wp hx, Option.bind_some]
  dsimp only
  rw [row_w]
  refine loop_up (fun i => (((lrow i x.testBit, (i : Int), ()), (w, (wp x).1, (wp x).2.1, ()), row x.testBit, ()) : ((List Bool) × Int × Unit) × ((Int × Int × Int × Unit) × (List Bool) × Unit))) (min w 128).toNat ?_ ?_ 0 (by omega)
  · intro i hi
    dsimp only
    unfold ref02_Bits_s0
    simp only [gsome]
    rw [decide_eq_true (show (i : Int) < w by omega), decide_eq_true (show (i : Int) < 128 by omega)]
    simp only [cond_true]
    rw [ck_nat (show i < 128 by omega), row_rd _ (show i < 128 by omega), Option.bind_some, roomI_ok (by rw [lrow_len]; simp only [List.length_cons, List.length_nil]; omega), Option.bind_some, ← lrow_succ, wi64 (by omega)]
  · dsimp only
    unfold ref02_Bits_s0
    simp only [gsome]
    have e : (bif decide ((((min w 128).toNat : Nat) : Int) < w) then (bif decide ((((min w 128).toNat : Nat) : Int) < w) then decide ((((min w 128).toNat : Nat) : Int) < 128) else false) else false) = false := by
      by_cases h : (((min w 128).toNat : Nat) : Int) < w
      · rw [decide_eq_true h, decide_eq_false (by omega)]; rfl
      · rw [decide_eq_false h]; rfl
    rw [e]
    rfl

theorem bit_out {x : Nat} {w i : Nat} (h : bitLen x ≤ w) (hi : w ≤ i) : x.testBit i = false :=
  Nat.testBit_lt_two_pow (Nat.lt_of_lt_of_le (bitLen_spec x).1 (Nat.pow_le_pow_right (by omega) (by omega)))

/-! ### bytes -/
/-- the lowest m bytes of a number, the high ones first -/
def be (n m : Nat) : List Int := lrow m fun j => ((n / 2 ^ (8 * (m - 1 - j)) % 256 : Nat) : Int)

/-- a number's lowest m bits, the high ones first -/
def high (n m : Nat) : List Bool := lrow m fun j => n.testBit (m - 1 - j)

theorem be_len (n m : Nat) : (be n m).length = m := lrow_len _ _
theorem high_len (n m : Nat) : (high n m).length = m := lrow_len _ _

theorem bit_add (n e k : Nat) : 2 * (n / 2 ^ (e + 1) % 2 ^ k) + (bif n.testBit e then 1 else 0) = n / 2 ^ e % 2 ^ (k + 1) := by
  have h1 : n / 2 ^ (e + 1) = n / 2 ^ e / 2 := by rw [Nat.pow_succ, Nat.div_div_eq_div_mul]
  have h2 : n.testBit e = decide (n / 2 ^ e % 2 = 1) := Nat.testBit_eq_decide_div_mod_eq
  rw [h1, h2, Nat.pow_succ, Nat.mul_comm (2 ^ k) 2, Nat.mod_mul]
  generalize n / 2 ^ e = m
  by_cases h : m % 2 = 1
  · rw [decide_eq_true h, cond_true]; omega
  · rw [decide_eq_false h, cond_false]; omega

theorem ref03_Bytes_ok {n m : Nat} (hm : m ≤ 10000) : ref03_Bytes (high n (8 * m)) = some ((be n m, ()), ()) := by
  unfold ref03_Bytes
  refine loop_up (fun i => (((high n (8 * m), lrow i (fun j => ((n / 2 ^ (8 * (m - 1 - j)) % 256 : Nat) : Int)), ((8 * i : Nat) : Int), ()), ()) : ((List Bool) × (List Int) × Int × Unit) × Unit)) m ?_ ?_ 0 (by omega)
  · intro i hi
    dsimp only
    unfold ref03_Bytes_s0
    rw [high_len, decide_eq_true (show ((8 * i : Nat) : Int) < ((8 * m : Nat) : Int) by omega), cond_true]
    have key := loop_up (f := fun (z : ((List Bool) × (List Int) × Int × Int × Int × Unit) × (Unit)) => ref03_Bytes_s2 z.1.1 z.1.2.1 z.1.2.2.1 z.1.2.2.2.1 z.1.2.2.2.2.1) (fun k => (((high n (8 * m), lrow i (fun j => ((n / 2 ^ (8 * (m - 1 - j)) % 256 : Nat) : Int)), ((8 * i : Nat) : Int), ((n / 2 ^ (8 * m - 8 * i - k) % 2 ^ k : Nat) : Int), ((8 * i + k : Nat) : Int), ()), ()))) 8 ?_ ?_ 0 (by omega) (r := (Sum.inl ((high n (8 * m), lrow (i + 1) (fun j => ((n / 2 ^ (8 * (m - 1 - j)) % 256 : Nat) : Int)), ((8 * (i + 1) : Nat) : Int), ()), ())))
    · rw [Nat.pow_zero, Nat.mod_one] at key
      exact key
    · intro k hk
      dsimp only
      unfold ref03_Bytes_s2
      have hlt : n / 2 ^ (8 * m - 8 * i - k) % 2 ^ k < 256 := Nat.lt_of_lt_of_le (Nat.mod_lt _ (Nat.two_pow_pos k)) (by rw [show 256 = 2 ^ 8 from rfl]; exact Nat.pow_le_pow_right (by omega) (by omega))
      have hs := bit_add n (8 * m - 8 * i - (k + 1)) k
      rw [show 8 * m - 8 * i - (k + 1) + 1 = 8 * m - 8 * i - k by omega] at hs
      have hb : rdI (high n (8 * m)) ((8 * i + k : Nat) : Int) = some (n.testBit (8 * m - 8 * i - (k + 1))) := by
        unfold high
        rw [lrow_rd _ (by omega), show 8 * m - 1 - (8 * i + k) = 8 * m - 8 * i - (k + 1) by omega]
      rw [show IntKind.i64.wrap (((8 * i : Nat) : Int) + 8) = ((8 * i + 8 : Nat) : Int) by rw [wrap_i64 (by omega) (by omega)]; omega, decide_eq_true (show ((8 * i + k : Nat) : Int) < ((8 * i + 8 : Nat) : Int) by omega), cond_true]
      simp only [gsome, high_len]
      rw [decide_eq_true (show ((8 * i + k : Nat) : Int) < ((8 * m : Nat) : Int) by omega)]
      simp only [cond_true, gtrue]
      rw [hb, Option.bind_some, wi64 (show 8 * i + k < 1000000000 by omega), ← hs]
      generalize n / 2 ^ (8 * m - 8 * i - k) % 2 ^ k = v at hlt
      cases n.testBit (8 * m - 8 * i - (k + 1))
      · simp only [cond_false]
        rw [wrap_i64 (by omega) (by omega)]
        rfl
      · simp only [cond_true]
        rw [wrap_i64 (n := 2 * (v : Int)) (by omega) (by omega), wrap_i64 (by omega) (by omega)]
        rfl
    · dsimp only
      unfold ref03_Bytes_s2
      rw [show IntKind.i64.wrap (((8 * i : Nat) : Int) + 8) = ((8 * i + 8 : Nat) : Int) by rw [wrap_i64 (by omega) (by omega)]; omega, decide_eq_false (show ¬ ((8 * i + 8 : Nat) : Int) < ((8 * i + 8 : Nat) : Int) by omega), cond_false, roomI_ok (by rw [lrow_len]; simp only [List.length_cons, List.length_nil]; omega), Option.bind_some]
      have hb : n / 2 ^ (8 * m - 8 * i - 8) % 2 ^ 8 < 256 := Nat.mod_lt _ (by omega)
      rw [wrap_u8 (by omega) (by omega), lrow_succ, show 8 * (m - 1 - i) = 8 * m - 8 * i - 8 by omega]
      rfl
  · dsimp only
    unfold ref03_Bytes_s0
    rw [high_len, decide_eq_false (show ¬ ((8 * m : Nat) : Int) < ((8 * m : Nat) : Int) by omega), cond_false]
    rfl

end Go.L

namespace Go.L
open Go Go.Pv
set_option maxRecDepth 100000

theorem bytes_Clone_ok {b : List Int} (h : b.length ≤ 1000000) : bytes_Clone b = some ((b, ()), ()) := by
  unfold bytes_Clone
  rw [roomI_ok (by simp only [List.length_nil]; omega)]
  cases b with
  | nil =>
    unfold amb
    simp
  | cons x l => rfl

theorem slices_Clip_ok {b : List Int} : slices_Clip_byte_byte b = some ((b, ()), ()) := by
  unfold slices_Clip_byte_byte
  dsimp only
  rw [if_pos rfl]
  unfold subL
  rw [if_pos (by omega)]
  simp

/-- the bits of an integer -/
def nat64 (n : Int) : Nat := (n % 18446744073709551616).toNat

theorem nat64_eq (n : Int) : ((nat64 n : Nat) : Int) = n % 18446744073709551616 := by unfold nat64; omega

theorem shr_byte {n : Int} {s : Nat} (hs : s ≤ 7) : (shrI .i64 n ((8 * s : Nat) : Int)).map IntKind.u8.wrap = some ((nat64 n / 2 ^ (8 * s) % 256 : Nat) : Int) := by
  unfold shrI
  rw [if_neg (by omega), Int.toNat_natCast, Option.map_some, wu8]
  congr 1
  have hn := nat64_eq n
  rw [show min (8 * s) IntKind.i64.bits = 8 * s by show min (8 * s) 64 = _; omega, Int.fdiv_eq_ediv_of_nonneg _ (by exact_mod_cast Nat.zero_le (2 ^ (8 * s)))]
  generalize nat64 n = N at hn
  have : s = 0 ∨ s = 1 ∨ s = 2 ∨ s = 3 ∨ s = 4 ∨ s = 5 ∨ s = 6 ∨ s = 7 := by omega
  rcases this with h | h | h | h | h | h | h | h <;> subst h <;> simp only [Nat.reduceMul, Nat.reducePow, Int.reducePow] <;> omega

theorem shr_byte' {n : Int} {s : Nat} (hs : s ≤ 7) {β : Type} (k : Int → Option β) : ((shrI .i64 n ((8 * s : Nat) : Int)).bind fun v => k (IntKind.u8.wrap v)) = k ((nat64 n / 2 ^ (8 * s) % 256 : Nat) : Int) := by
  have := shr_byte (n := n) hs
  cases h : shrI .i64 n ((8 * s : Nat) : Int) with
  | none => rw [h] at this; cases this
  | some v =>
    rw [h, Option.map_some] at this
    rw [Option.bind_some, Option.some.inj this]

theorem wire_put_ok {b : List Int} {n : Int} {m : Nat} (hb : b.length ≤ 1000000) (hm : m ≤ 8) : wire_put b n (m : Int) = some ((b ++ be (nat64 n) m, ()), ()) := by
  unfold wire_put
  rw [bytes_Clone_ok hb, Option.bind_some, slices_Clip_ok, Option.bind_some]
  have key := loop_up (f := fun (z : (Int × Int × (List Int) × Int × Int × Unit) × (Unit)) => wire_put_s0 z.1.1 z.1.2.1 z.1.2.2.1 z.1.2.2.2.1 z.1.2.2.2.2.1) (fun i => ((n, (m : Int), b ++ lrow i (fun j => ((nat64 n / 2 ^ (8 * (m - 1 - j)) % 256 : Nat) : Int)), (m : Int), (i : Int), ()), ())) m (r := ((b ++ be (nat64 n) m, ()), ())) ?_ ?_ 0 (by omega)
  · rw [lrow_zero, List.append_nil] at key
    exact key
  · intro i hi
    dsimp only
    unfold wire_put_s0
    rw [decide_eq_true (show (i : Int) < (m : Int) by omega), cond_true, show IntKind.i64.wrap (8 * IntKind.i64.wrap (IntKind.i64.wrap ((m : Int) - 1) - (i : Int))) = ((8 * (m - 1 - i) : Nat) : Int) by rw [wrap_i64 (n := (m : Int) - 1) (by omega) (by omega), wrap_i64 (n := (m : Int) - 1 - (i : Int)) (by omega) (by omega), wrap_i64 (by omega) (by omega)]; omega]
    have hsh := shr_byte' (n := n) (show m - 1 - i ≤ 7 by omega) (fun v => (roomI 1 (b ++ lrow i (fun j => ((nat64 n / 2 ^ (8 * (m - 1 - j)) % 256 : Nat) : Int))) [v]).bind fun v_9 => (some (Sum.inl ((n, (m : Int), v_9, (m : Int), (IntKind.i64.wrap ((i : Int) + 1)), ()), ())) : Option (((Int × Int × (List Int) × Int × Int × Unit) × (Unit)) ⊕ (((List Int) × Unit) × (Unit)))))
    rw [hsh, roomI_ok (by rw [List.length_append, lrow_len]; simp only [List.length_cons, List.length_nil]; omega), Option.bind_some, wi64 (by omega), List.append_assoc, ← lrow_succ]
  · dsimp only
    unfold wire_put_s0
    rw [decide_eq_false (show ¬ (m : Int) < (m : Int) by omega), cond_false]
    rfl

theorem ref07_Number_ok {n : Int} {m : Nat} (hm : m ≤ 8) : ref07_Number n (m : Int) = some ((be (nat64 n) m, ()), ()) := by
  unfold ref07_Number
  have hN : nat64 n < 18446744073709551616 := by unfold nat64; omega
  have hv : ((64, 0, IntKind.u64.wrap n, ()) : Int × Int × Int × Unit) = vw 64 (nat64 n) := by
    unfold vw wp
    rw [Nat.div_eq_of_lt hN, Nat.mod_eq_of_lt hN, wrapu, nat64_eq]
    rfl
  rw [hv, ref02_Bits_ok (by omega), Option.bind_some]
  dsimp only
  rw [show (min (64 : Int) 128).toNat = 64 from rfl, show IntKind.i64.wrap (IntKind.i64.wrap (8 * (m : Int)) - 1) = ((8 * m : Nat) : Int) - 1 by rw [wrap_i64 (n := 8 * (m : Int)) (by omega) (by omega), wrap_i64 (by omega) (by omega)]; omega]
  have key := loop_up (f := fun (z : ((List Bool) × (List Bool) × Int × Unit) × (Unit)) => ref07_Number_s0 z.1.1 z.1.2.1 z.1.2.2.1) (fun k => ((lrow 64 (nat64 n).testBit, lrow k (fun j => (nat64 n).testBit (8 * m - 1 - j)), ((8 * m : Nat) : Int) - 1 - (k : Int), ()), ())) (8 * m) (r := ((be (nat64 n) m, ()), ())) ?_ ?_ 0 (by omega)
  · rw [lrow_zero, show ((8 * m : Nat) : Int) - 1 - ((0 : Nat) : Int) = ((8 * m : Nat) : Int) - 1 by omega] at key
    exact key
  · intro k hk
    dsimp only
    unfold ref07_Number_s0
    rw [decide_eq_true (show ((8 * m : Nat) : Int) - 1 - (k : Int) ≥ 0 by omega), cond_true, show ((8 * m : Nat) : Int) - 1 - (k : Int) = ((8 * m - 1 - k : Nat) : Int) by omega, lrow_len, ck_nat (show 8 * m - 1 - k < 64 by omega), lrow_rd _ (show 8 * m - 1 - k < 64 by omega), Option.bind_some, roomI_ok (by rw [lrow_len]; simp only [List.length_cons, List.length_nil]; omega), Option.bind_some, ← lrow_succ, wrap_i64 (by omega) (by omega), show ((8 * m - 1 - k : Nat) : Int) - 1 = ((8 * m : Nat) : Int) - 1 - ((k + 1 : Nat) : Int) by omega]
  · dsimp only
    unfold ref07_Number_s0
    rw [decide_eq_false (show ¬ ((8 * m : Nat) : Int) - 1 - ((8 * m : Nat) : Int) ≥ 0 by omega), cond_false]
    have := ref03_Bytes_ok (n := nat64 n) (m := m) (by omega)
    unfold high at this
    rw [this]
    rfl

/-! ### vectors -/
/-- a vector's encoding -/
def enc (w : Int) (x : Nat) : List Int := bif may w x then w :: be x ((w.toNat + 7) / 8) else [0]

theorem be1 {n : Int} (h0 : 0 ≤ n) (h1 : n < 256) : be (nat64 n) 1 = [n] := by
  unfold be
  rw [lrow_succ, lrow_zero]
  show [((nat64 n / 2 ^ 0 % 256 : Nat) : Int)] = _
  rw [Nat.pow_zero, Nat.div_one]
  have := nat64_eq n
  congr 1
  omega

theorem enc_len (w : Int) (x : Nat) : (enc w x).length ≤ 17 := by
  unfold enc
  cases h : may w x
  · rw [cond_false]; simp
  · have := may_of h
    rw [cond_true, List.length_cons, be_len]
    omega

theorem wire_Vec_ok {b : List Int} {w : Int} {x : Nat} (hb : b.length ≤ 900000) (hx : x < 340282366920938463463374607431768211456) : wire_Vec b (vw w x) = some ((b ++ enc w x, ()), ()) := by
  unfold wire_Vec enc
  have hpv : ((vw w x).1, (vw w x).2.1, (vw w x).2.2.1, ()) = vw w x := rfl
  rw [hpv, vec_May_ok hx, Option.bind_some]
  cases h : may w x
  · have := wire_put_ok (n := 0) (m := 1) (show b.length ≤ 1000000 by omega) (by omega)
    rw [be1 (by omega) (by omega)] at this
    simp only [Bool.not_false, cond_true, cond_false]
    have e : wire_put b 0 1 = some ((b ++ [0], ()), ()) := this
    rw [e]
    rfl
  · obtain ⟨h1, h2, h3⟩ := may_of h
    have := wire_put_ok (n := w) (m := 1) (show b.length ≤ 1000000 by omega) (by omega)
    rw [be1 (by omega) (by omega)] at this
    simp only [Bool.not_true, cond_true, cond_false]
    have e : wire_put b (vw w x).1 1 = some ((b ++ [w], ()), ()) := this
    rw [e, Option.bind_some]
    unfold wire_room
    rw [Option.bind_some]
    dsimp only
    obtain ⟨W, rfl⟩ : ∃ W : Nat, w = W := ⟨w.toNat, by omega⟩
    rw [Int.toNat_natCast]
    generalize hm : (W + 7) / 8 = m
    rw [show (vw (W : Int) x).1 = (W : Int) from rfl, show IntKind.i64.wrap (IntKind.i64.wrap ((IntKind.i64.wrap (IntKind.i64.wrap ((W : Int) + 8) - 1)).tdiv 8) - 1) = (m : Int) - 1 by
      rw [wrap_i64 (n := (W : Int) + 8) (by omega) (by omega), wrap_i64 (n := (W : Int) + 8 - 1) (by omega) (by omega), Int.tdiv_eq_ediv_of_nonneg (by omega), wrap_i64 (n := ((W : Int) + 8 - 1) / 8) (by omega) (by omega), wrap_i64 (by omega) (by omega)]; omega]
    have key := loop_up (f := fun (z : ((List Int) × Int × Unit) × ((Int × Int × Int × Unit) × Unit)) => wire_Vec_s0 z.1.1 z.1.2.1 z.2.1) (fun k => ((b ++ [(W : Int)] ++ lrow k (fun j => ((x / 2 ^ (8 * (m - 1 - j)) % 256 : Nat) : Int)), (m : Int) - 1 - (k : Int), ()), vw (W : Int) x, ())) m (r := ((b ++ (W : Int) :: be x m, ()), ())) ?_ ?_ 0 (by omega)
    · rw [lrow_zero, List.append_nil, show (m : Int) - 1 - ((0 : Nat) : Int) = (m : Int) - 1 by omega] at key
      exact key
    · intro k hk
      dsimp only
      unfold wire_Vec_s0 vec_Word
      rw [decide_eq_true (show (m : Int) - 1 - (k : Int) ≥ 0 by omega), cond_true, Option.bind_some]
      dsimp only
      rw [show ((vw (W : Int) x).2.1, (vw (W : Int) x).2.2.1, ()) = wp x from rfl, word_Shr_ok hx, Option.bind_some, show (m : Int) - 1 - (k : Int) = ((m - 1 - k : Nat) : Int) by omega, show IntKind.i64.wrap (8 * ((m - 1 - k : Nat) : Int)) = ((8 * (m - 1 - k) : Nat) : Int) by rw [wrap_i64 (by omega) (by omega)]; omega]
      have hmv : moved x (-((8 * (m - 1 - k) : Nat) : Int)) = x / 2 ^ (8 * (m - 1 - k)) := by
        unfold moved
        by_cases h0 : m - 1 - k = 0
        · rw [h0, if_pos (by omega), if_pos (by omega), show (-((8 * 0 : Nat) : Int)).toNat = 0 from rfl, show 2 ^ (8 * 0) = 1 from rfl, Nat.mul_one, Nat.div_one, Nat.mod_eq_of_lt hx]
        · rw [if_neg (by omega), show (-(-((8 * (m - 1 - k) : Nat) : Int))).toNat = 8 * (m - 1 - k) by omega]
      have hu : IntKind.u8.wrap (wp (moved x (-((8 * (m - 1 - k) : Nat) : Int)))).2.1 = ((x / 2 ^ (8 * (m - 1 - k)) % 256 : Nat) : Int) := by
        rw [hmv]
        generalize x / 2 ^ (8 * (m - 1 - k)) = q
        rw [wu8]
        show ((q % 18446744073709551616 : Nat) : Int) % 256 = _
        omega
      dsimp only
      rw [hu, roomI_ok (by simp only [List.length_append, lrow_len, List.length_cons, List.length_nil]; omega), Option.bind_some, List.append_assoc, ← lrow_succ, wrap_i64 (by omega) (by omega), show ((m - 1 - k : Nat) : Int) - 1 = (m : Int) - 1 - ((k + 1 : Nat) : Int) by omega]
      rfl
    · dsimp only
      unfold wire_Vec_s0
      rw [decide_eq_false (show ¬ (m : Int) - 1 - (m : Int) ≥ 0 by omega), cond_false, List.append_assoc]
      rfl

theorem ref03_Of_ok {w : Int} {x : Nat} (h1 : 1 ≤ w) (h2 : w ≤ 128) (hx : x < 340282366920938463463374607431768211456) : ref03_Of (vw w x) = some ((high x w.toNat, ()), ()) := by
  unfold ref03_Of
  have hpv : ((vw w x).1, (vw w x).2.1, (vw w x).2.2.1, ()) = vw w x := rfl
  rw [hpv, ref02_Bits_ok hx, Option.bind_some]
  dsimp only
  obtain ⟨W, rfl⟩ : ∃ W : Nat, w = W := ⟨w.toNat, by omega⟩
  rw [show (min (W : Int) 128).toNat = W by omega, Int.toNat_natCast, lrow_len, wrap_i64 (by omega) (by omega)]
  have key := loop_up (f := fun (z : ((List Bool) × (List Bool) × Int × Unit) × (Unit)) => ref03_Of_s0 z.1.1 z.1.2.1 z.1.2.2.1) (fun k => ((lrow W x.testBit, lrow k (fun j => x.testBit (W - 1 - j)), (W : Int) - 1 - (k : Int), ()), ())) W (r := ((high x W, ()), ())) ?_ ?_ 0 (by omega)
  · rw [lrow_zero, show (W : Int) - 1 - ((0 : Nat) : Int) = (W : Int) - 1 by omega] at key
    exact key
  · intro k hk
    dsimp only
    unfold ref03_Of_s0
    rw [decide_eq_true (show (W : Int) - 1 - (k : Int) ≥ 0 by omega), cond_true, show (W : Int) - 1 - (k : Int) = ((W - 1 - k : Nat) : Int) by omega, lrow_len, ck_nat (show W - 1 - k < W by omega), lrow_rd _ (show W - 1 - k < W by omega), Option.bind_some, roomI_ok (by rw [lrow_len]; simp only [List.length_cons, List.length_nil]; omega), Option.bind_some, ← lrow_succ, wrap_i64 (by omega) (by omega), show ((W - 1 - k : Nat) : Int) - 1 = (W : Int) - 1 - ((k + 1 : Nat) : Int) by omega]
  · dsimp only
    unfold ref03_Of_s0
    rw [decide_eq_false (show ¬ (W : Int) - 1 - (W : Int) ≥ 0 by omega), cond_false]
    rfl

theorem pads {x W m : Nat} (hl : bitLen x ≤ W) (hm : m = (W + 7) / 8) : lrow (8 * m - W) (fun _ => false) ++ high x W = high x (8 * m) := by
  unfold high
  have e : lrow (8 * m) (fun j => x.testBit (8 * m - 1 - j)) = lrow (8 * m - W) (fun j => x.testBit (8 * m - 1 - j)) ++ lrow W (fun j => x.testBit (8 * m - 1 - (8 * m - W + j))) := by
    rw [← lrow_add, show 8 * m - W + W = 8 * m by omega]
  rw [e]
  congr 1
  · exact lrow_ext fun i hi => (bit_out hl (by omega)).symm
  · exact lrow_ext fun i hi => by rw [show 8 * m - 1 - (8 * m - W + i) = W - 1 - i by omega]

theorem ref07_Vec_ok {w : Int} {x : Nat} (hx : x < 340282366920938463463374607431768211456) : ref07_Vec (vw w x) = some ((enc w x, ()), ()) := by
  unfold ref07_Vec enc
  have hpv : ((vw w x).1, (vw w x).2.1, (vw w x).2.2.1, ()) = vw w x := rfl
  rw [hpv, ref02_May_ok hx, Option.bind_some]
  cases h : may w x
  · rfl
  · obtain ⟨h1, h2, h3⟩ := may_of h
    simp only [Bool.not_true, cond_false, cond_true]
    obtain ⟨W, rfl⟩ : ∃ W : Nat, w = W := ⟨w.toNat, by omega⟩
    rw [Int.toNat_natCast]
    generalize hm : (W + 7) / 8 = m
    have key := loop_up (f := fun (z : ((List Bool) × Unit) × ((Int × Int × Int × Unit) × Unit)) => ref07_Vec_s0 z.1.1 z.2.1) (fun k => ((lrow k (fun _ => false), ()), vw (W : Int) x, ())) (8 * m - W) (r := (((W : Int) :: be x m, ()), ())) ?_ ?_ 0 (by omega)
    · exact key
    · intro k hk
      dsimp only
      unfold ref07_Vec_s0
      rw [lrow_len, show (vw (W : Int) x).1 = (W : Int) from rfl, wrap_i64 (by omega) (by omega), Int.tmod_eq_emod_of_nonneg (by omega), decide_eq_false (show ¬ ((k : Int) + (W : Int)) % 8 = 0 by omega), Bool.not_false, cond_true, roomI_ok (by rw [lrow_len]; simp only [List.length_cons, List.length_nil]; omega), Option.bind_some, ← lrow_succ (f := fun _ => false)]
      rfl
    · dsimp only
      unfold ref07_Vec_s0
      rw [lrow_len, show (vw (W : Int) x).1 = (W : Int) from rfl, wrap_i64 (by omega) (by omega), Int.tmod_eq_emod_of_nonneg (by omega), decide_eq_true (show (((8 * m - W : Nat) : Int) + (W : Int)) % 8 = 0 by omega), Bool.not_true, cond_false]
      rw [show ((W : Int), (vw (W : Int) x).2.1, (vw (W : Int) x).2.2.1, ()) = vw (W : Int) x from rfl, ref03_Of_ok h1 h2 hx, Option.bind_some, Int.toNat_natCast]
      dsimp only
      rw [roomI_ok (by rw [lrow_len, high_len]; omega), Option.bind_some, pads (by omega) hm.symm, ref03_Bytes_ok (by omega), Option.bind_some]
      dsimp only
      rw [wrap_u8 (by omega) (by omega), roomI_ok (by rw [be_len]; simp only [List.length_cons, List.length_nil]; omega)]
      rfl

/-! ### names, lists -/
def encName (s : List Int) : List Int := if s.length ≤ 255 then (s.length : Int) :: s else [0]

theorem put1 {b : List Int} {n : Int} (hb : b.length ≤ 1000000) (h0 : 0 ≤ n) (h1 : n < 256) : wire_put b n 1 = some ((b ++ [n], ()), ()) := by
  have := wire_put_ok (n := n) (m := 1) hb (by omega)
  rw [be1 h0 h1] at this
  exact this

theorem wire_Name_ok {b s : List Int} (hb : b.length ≤ 900000) : wire_Name b s = some ((b ++ encName s, ()), ()) := by
  unfold wire_Name encName
  by_cases h : s.length ≤ 255
  · rw [decide_eq_false (show ¬ (s.length : Int) > 255 by omega), cond_false, put1 (by omega) (by omega) (by omega), Option.bind_some, if_pos h]
    dsimp only
    rw [roomI_ok (by simp only [List.length_append, List.length_cons, List.length_nil]; omega), Option.bind_some, List.append_assoc]
    rfl
  · rw [decide_eq_true (show (s.length : Int) > 255 by omega), cond_true, put1 (by omega) (by omega) (by omega), if_neg h]
    rfl

theorem ref07_Name_ok {s : List Int} : ref07_Name s = some ((encName s, ()), ()) := by
  unfold ref07_Name encName
  by_cases h : s.length ≤ 255
  · rw [decide_eq_false (show ¬ (s.length : Int) > 255 by omega), cond_false, wrap_u8 (by omega) (by omega), roomI_ok (by simp only [List.length_cons, List.length_nil]; omega), if_pos h]
    rfl
  · rw [decide_eq_true (show (s.length : Int) > 255 by omega), cond_true, if_neg h]

/-- vectors, one after the other -/
def encs : List (Int × Int × Int × Unit) → List Int
  | [] => []
  | v :: l => enc v.1 (v.2.1.toNat * 18446744073709551616 + v.2.2.1.toNat) ++ encs l

theorem encs_append : ∀ l l' : List (Int × Int × Int × Unit), encs (l ++ l') = encs l ++ encs l'
  | [], _ => rfl
  | v :: l, l' => by
    show enc _ _ ++ encs (l ++ l') = (enc _ _ ++ encs l) ++ encs l'
    rw [encs_append l l', List.append_assoc]

theorem encs_len : ∀ l : List (Int × Int × Int × Unit), (encs l).length ≤ 17 * l.length
  | [] => by simp [encs]
  | v :: l => by
    show (enc _ _ ++ encs l).length ≤ _
    have h1 := enc_len v.1 (v.2.1.toNat * 18446744073709551616 + v.2.2.1.toNat)
    have h2 := encs_len l
    rw [List.length_append, List.length_cons]
    omega

theorem take_succ_getD {α : Type} {l : List α} {i : Nat} (d : α) (h : i < l.length) : l.take (i + 1) = l.take i ++ [l.getD i d] := by
  rw [List.take_succ_eq_append_getElem h]
  simp [List.getD, List.getElem?_eq_getElem h]

theorem rd_getD' {α : Type} {l : List α} {i : Nat} (d : α) (h : i < l.length) : rdI l (i : Int) = some (l.getD i d) := by
  unfold rdI
  rw [if_pos (by omega)]
  simp [List.getD, List.getElem?_eq_getElem h]

def okV (v : Int × Int × Int × Unit) : Prop := inR .u64 v.2.1 = true ∧ inR .u64 v.2.2.1 = true

theorem okV_vw {v : Int × Int × Int × Unit} (h : okV v) : v.2.1.toNat * 18446744073709551616 + v.2.2.1.toNat < 340282366920938463463374607431768211456 ∧ v = vw v.1 (v.2.1.toNat * 18446744073709551616 + v.2.2.1.toNat) := by
  have h1 := u64_of h.1
  have h2 := u64_of h.2
  refine ⟨by omega, ?_⟩
  unfold vw wp
  refine Prod.ext rfl (Prod.ext ?_ (Prod.ext ?_ rfl))
  · dsimp only
    omega
  · dsimp only
    omega

def encVecs (l : List (Int × Int × Int × Unit)) : List Int := if l.length ≤ 255 then (l.length : Int) :: encs l else [0]

theorem take_lt {l : List (Int × Int × Int × Unit)} {i : Nat} (h : i < l.length) : encs (l.take (i + 1)) = encs (l.take i) ++ enc (l.getD i (0, 0, 0, ())).1 ((l.getD i (0, 0, 0, ())).2.1.toNat * 18446744073709551616 + (l.getD i (0, 0, 0, ())).2.2.1.toNat) := by
  rw [take_succ_getD (0, 0, 0, ()) h, encs_append]
  congr 1
  show enc _ _ ++ [] = _
  rw [List.append_nil]

theorem getD_mem {α : Type} {l : List α} {i : Nat} (d : α) (h : i < l.length) : l.getD i d ∈ l := by
  simp only [List.getD, List.getElem?_eq_getElem h, Option.getD_some]
  exact List.getElem_mem h

theorem wire_Vecs_ok {b : List Int} {l : List (Int × Int × Int × Unit)} (hb : b.length ≤ 800000) (hl : ∀ v ∈ l, okV v) : wire_Vecs b l = some ((b ++ encVecs l, ()), ()) := by
  unfold wire_Vecs encVecs
  by_cases h : l.length ≤ 255
  · rw [decide_eq_false (show ¬ (l.length : Int) > 255 by omega), cond_false, put1 (by omega) (by omega) (by omega), Option.bind_some, if_pos h]
    have key := loop_up (f := fun (z : ((List Int) × (List (Int × Int × Int × Unit)) × Int × Int × Unit) × (Unit)) => wire_Vecs_s0 z.1.1 z.1.2.1 z.1.2.2.1 z.1.2.2.2.1) (fun i => ((b ++ [(l.length : Int)] ++ encs (l.take i), l, (l.length : Int), (i : Int), ()), ())) l.length (r := ((b ++ (l.length : Int) :: encs l, ()), ())) ?_ ?_ 0 (by omega)
    · rw [List.take_zero, show encs [] = [] from rfl, List.append_nil] at key
      exact key
    · intro i hi
      dsimp only
      unfold wire_Vecs_s0
      obtain ⟨hx, e⟩ := okV_vw (hl _ (getD_mem (0, 0, 0, ()) hi))
      have hlen := encs_len (l.take i)
      rw [List.length_take] at hlen
      rw [decide_eq_true (show (i : Int) < (l.length : Int) by omega), cond_true, rd_getD' (0, 0, 0, ()) hi, Option.bind_some, take_lt hi]
      generalize l.getD i (0, 0, 0, ()) = v at hx e ⊢
      have := wire_Vec_ok (b := b ++ [(l.length : Int)] ++ encs (l.take i)) (w := v.1) (by simp only [List.length_append, List.length_cons, List.length_nil]; omega) hx
      rw [← e] at this
      rw [this, Option.bind_some, wi64 (by omega), List.append_assoc (b ++ [(l.length : Int)])]
    · dsimp only
      unfold wire_Vecs_s0
      rw [decide_eq_false (show ¬ (l.length : Int) < (l.length : Int) by omega), cond_false, List.take_length, List.append_assoc]
      rfl
  · rw [decide_eq_true (show (l.length : Int) > 255 by omega), cond_true, put1 (by omega) (by omega) (by omega), if_neg h]
    rfl

def encNums (l : List Int) : List Int := if l.length ≤ 255 then (l.length : Int) :: l.map IntKind.u8.wrap else [0]

theorem map_take {l : List Int} {i : Nat} (h : i < l.length) : (l.take (i + 1)).map IntKind.u8.wrap = (l.take i).map IntKind.u8.wrap ++ [IntKind.u8.wrap (l.getD i 0)] := by
  rw [take_succ_getD 0 h, List.map_append]
  rfl

theorem wire_Numbers_ok {b : List Int} {l : List Int} (hb : b.length ≤ 800000) : wire_Numbers b l = some ((b ++ encNums l, ()), ()) := by
  unfold wire_Numbers encNums
  by_cases h : l.length ≤ 255
  · rw [decide_eq_false (show ¬ (l.length : Int) > 255 by omega), cond_false, put1 (by omega) (by omega) (by omega), Option.bind_some, if_pos h]
    have key := loop_up (f := fun (z : ((List Int) × (List Int) × Int × Int × Unit) × (Unit)) => wire_Numbers_s0 z.1.1 z.1.2.1 z.1.2.2.1 z.1.2.2.2.1) (fun i => ((b ++ [(l.length : Int)] ++ (l.take i).map IntKind.u8.wrap, l, (l.length : Int), (i : Int), ()), ())) l.length (r := ((b ++ (l.length : Int) :: l.map IntKind.u8.wrap, ()), ())) ?_ ?_ 0 (by omega)
    · rw [List.take_zero, List.map_nil, List.append_nil] at key
      exact key
    · intro i hi
      dsimp only
      unfold wire_Numbers_s0
      rw [decide_eq_true (show (i : Int) < (l.length : Int) by omega), cond_true, rd_getD' 0 hi, Option.bind_some, map_take hi, roomI_ok (by simp only [List.length_append, List.length_map, List.length_take, List.length_cons, List.length_nil]; omega), Option.bind_some, wi64 (by omega), List.append_assoc (b ++ [(l.length : Int)])]
    · dsimp only
      unfold wire_Numbers_s0
      rw [decide_eq_false (show ¬ (l.length : Int) < (l.length : Int) by omega), cond_false, List.take_length, List.append_assoc]
      rfl
  · rw [decide_eq_true (show (l.length : Int) > 255 by omega), cond_true, put1 (by omega) (by omega) (by omega), if_neg h]
    rfl

end Go.L

namespace Go.L
open Go Go.Pv
set_option maxRecDepth 100000

abbrev V4 := Int × Int × Int × Unit
abbrev Cl := Int × List V4 × Unit
abbrev En := List V4 × List V4 × Int × Int × Cl × Unit
abbrev Up := Int × Int × En × Int × List Int × Unit

/-- a loop that looks for the first thing of a kind -/
theorem idx_any {α : Type} {p : α → Bool} {f : (List α × Int × Int × Unit) × Unit → Option (((List α × Int × Int × Unit) × Unit) ⊕ ((Int × Unit) × Unit))} (l : List α)
    (hf : ∀ (i : Nat) (h : i < l.length), f ((l, (l.length : Int), (i : Int), ()), ()) = bif p l[i] then some (.inr (((i : Int), ()), ())) else some (.inl ((l, (l.length : Int), ((i + 1 : Nat) : Int), ()), ())))
    (hend : f ((l, (l.length : Int), (l.length : Int), ()), ()) = some (.inr (((-1), ()), ()))) :
    ∃ i : Int, loopR f ((l, (l.length : Int), 0, ()), ()) = some ((i, ()), ()) ∧ decide (i ≥ 0) = l.any p := by
  have main : ∀ k i : Nat, l.length - i = k → i ≤ l.length → ∃ j : Int, loopR f ((l, (l.length : Int), (i : Int), ()), ()) = some ((j, ()), ()) ∧ decide (j ≥ 0) = (l.drop i).any p := by
    intro k
    induction k with
    | zero =>
      intro i hk hi
      have : i = l.length := by omega
      subst this
      exact ⟨-1, loopR_out hend, by simp⟩
    | succ k ih =>
      intro i hk hi
      have hil : i < l.length := by omega
      have hd : l.drop i = l[i] :: l.drop (i + 1) := List.drop_eq_getElem_cons hil
      have h := hf i hil
      cases hp : p l[i] with
      | true =>
        rw [hp, cond_true] at h
        exact ⟨(i : Int), loopR_out h, by rw [hd, List.any_cons, hp]; simp⟩
      | false =>
        rw [hp, cond_false] at h
        obtain ⟨j, h1, h2⟩ := ih (i + 1) (by omega) (by omega)
        exact ⟨j, loopR_on h h1, by rw [hd, List.any_cons, hp, h2]; rfl⟩
  exact main l.length 0 (by omega) (by omega)

/-- a loop that ends at the first thing of a kind -/
theorem scan_any {σ ρ α : Type} {p : α → Bool} {f : σ → Option (σ ⊕ ρ)} (l : List α) (st : Nat → σ) (rF rE : ρ) (hf : ∀ (i : Nat) (h : i < l.length), f (st i) = bif p l[i] then some (.inr rF) else some (.inl (st (i + 1)))) (hend : f (st l.length) = some (.inr rE)) :
    loopR f (st 0) = some (bif l.any p then rF else rE) := by
  have main : ∀ k i : Nat, l.length - i = k → i ≤ l.length → loopR f (st i) = some (bif (l.drop i).any p then rF else rE) := by
    intro k
    induction k with
    | zero =>
      intro i hk hi
      have : i = l.length := by omega
      subst this
      rw [List.drop_length]
      exact loopR_out hend
    | succ k ih =>
      intro i hk hi
      have hil : i < l.length := by omega
      have hd : l.drop i = l[i] :: l.drop (i + 1) := List.drop_eq_getElem_cons hil
      have h := hf i hil
      cases hp : p l[i] with
      | true =>
        rw [hp, cond_true] at h
        rw [hd, List.any_cons, hp]
        exact loopR_out h
      | false =>
        rw [hp, cond_false] at h
        rw [hd, List.any_cons, hp, Bool.false_or]
        exact loopR_on h (ih (i + 1) (by omega) (by omega))
  exact main l.length 0 (by omega) (by omega)

theorem rdI_get {α : Type} {l : List α} {i : Nat} (h : i < l.length) : rdI l (i : Int) = some l[i] := by
  unfold rdI
  rw [if_pos (by omega), Int.toNat_natCast, List.getElem?_eq_getElem h]

def mayV (v : V4) : Bool := may v.1 (v.2.1.toNat * 18446744073709551616 + v.2.2.1.toNat)

theorem mayV_ok {v : V4} (h : okV v) : vec_May v = some ((mayV v, ()), ()) ∧ ref02_May v = some ((mayV v, ()), ()) := by
  obtain ⟨h1, h2⟩ := okV_vw h
  unfold mayV
  generalize v.2.1.toNat * 18446744073709551616 + v.2.2.1.toNat = x at h1 h2
  constructor
  · rw [h2]; exact vec_May_ok h1
  · rw [h2]; exact ref02_May_ok h1

def rowsB (l : List V4) (m : Nat) : Bool := decide (l.length ≤ m) && l.all mayV

theorem contains_rows {l : List V4} (hl : ∀ v ∈ l, okV v) (hn : l.length ≤ 1000000) : slices_ContainsFunc_api_Vec_api_Vec_d9d l = some ((l.any fun v => !mayV v, ()), ()) := by
  unfold slices_ContainsFunc_api_Vec_api_Vec_d9d slices_IndexFunc_api_Vec_api_Vec_d9d
  obtain ⟨i, h1, h2⟩ := idx_any (p := fun v => !mayV v) (f := fun (z : ((List V4) × Int × Int × Unit) × Unit) => slices_IndexFunc_api_Vec_api_Vec_d9d_s0 z.1.1 z.1.2.1 z.1.2.2.1) l
    (fun i h => by
      dsimp only
      unfold slices_IndexFunc_api_Vec_api_Vec_d9d_s0 batch_rows_1
      rw [dlt h, cond_true, rdI_get h, Option.bind_some, (mayV_ok (hl l[i] (List.getElem_mem h))).1]
      simp only [Option.bind_some, wi64 (show i < 1000000000 by omega)])
    (by
      dsimp only
      unfold slices_IndexFunc_api_Vec_api_Vec_d9d_s0
      rw [dge, cond_false])
  rw [h1, Option.bind_some, h2]

theorem all_any {α : Type} (l : List α) (p : α → Bool) : (!(l.any fun v => !p v)) = l.all p := by
  induction l with
  | nil => rfl
  | cons a l ih => simp only [List.any_cons, List.all_cons, Bool.not_or, Bool.not_not, ih]

theorem batch_rows_ok {l : List V4} {m : Nat} (hl : ∀ v ∈ l, okV v) (hn : l.length ≤ 1000000) : batch_rows l (m : Int) = some ((rowsB l m, ()), ()) := by
  unfold batch_rows rowsB
  have hd : decide ((l.length : Int) ≤ (m : Int)) = decide (l.length ≤ m) := decide_eq_decide.2 (by omega)
  rw [hd]
  cases decide (l.length ≤ m) with
  | false => simp only [gsome, gfalse, cond_false, Bool.false_and]
  | true => simp only [gsome, gtrue, contains_rows hl hn, Option.bind_some, cond_true, all_any, Bool.true_and]

theorem ref25_rows_ok {l : List V4} {m : Nat} (hl : ∀ v ∈ l, okV v) (hn : l.length ≤ 1000000) : ref25_rows l (m : Int) = some ((rowsB l m, ()), ()) := by
  unfold ref25_rows
  have key := scan_any (p := fun v => !mayV v) (f := fun (z : ((List V4) × Int × Int × Unit) × Unit) => ref25_rows_s0 z.1.1 z.1.2.1 z.1.2.2.1) l (fun i => ((l, (m : Int), (i : Int), ()), ())) ((false, ()), ()) ((decide ((l.length : Int) ≤ (m : Int)), ()), ())
    (fun i h => by
      dsimp only
      unfold ref25_rows_s0
      rw [dlt h, cond_true, rdI_get h, Option.bind_some, (mayV_ok (hl l[i] (List.getElem_mem h))).2]
      simp only [Option.bind_some, wi64 (show i < 1000000000 by omega)])
    (by
      dsimp only
      unfold ref25_rows_s0
      rw [dge, cond_false])
  refine Eq.trans key ?_
  have hd : decide ((l.length : Int) ≤ (m : Int)) = decide (l.length ≤ m) := decide_eq_decide.2 (by omega)
  rw [hd]
  unfold rowsB
  have := all_any l mayV
  cases hx : l.any fun v => !mayV v with
  | true => rw [hx] at this; rw [← this]; simp
  | false => rw [hx] at this; rw [← this]; simp

def inB (n lo hi : Int) : Bool := decide (lo ≤ n) && decide (n ≤ hi)

theorem within_ok (n lo hi : Int) : batch_within n lo hi = some ((inB n lo hi, ()), ()) := by
  unfold batch_within inB
  simp only [gsome, ge_iff_le]
  cases decide (lo ≤ n) <;> rfl

theorem ref25_in_ok (n m : Int) : ref25_in n m = some ((inB n 0 m, ()), ()) := by
  unfold ref25_in inB
  simp only [gsome, ge_iff_le]
  cases decide (0 ≤ n) <;> rfl

theorem dlen {α : Type} (l : List α) : decide ((l.length : Int) = 0) = l.isEmpty := by
  cases l with
  | nil => rfl
  | cons a l => exact decide_eq_false (by simp; omega)

def noRows (x : En) : Bool := x.1.isEmpty && x.2.1.isEmpty && decide (x.2.2.1 = 0) && decide (x.2.2.2.1 = 0)
def hasRows (x : En) : Bool := rowsB x.1 4 && rowsB x.2.1 4 && inB x.2.2.1 0 65535 && inB x.2.2.2.1 0 65535
def noCall (c : Cl) : Bool := decide (c.1 = 0) && c.2.1.isEmpty
def hasCall (c : Cl) : Bool := inB c.1 0 255 && rowsB c.2.1 8
def tabB (u : Up) : Bool := inB u.2.1 0 255 && decide (u.2.2.2.1 = 0) && u.2.2.2.2.1.isEmpty
def grpB (u : Up) : Bool := decide (u.2.1 = 0) && noRows u.2.2.1 && noCall u.2.2.1.2.2.2.2.1 && inB u.2.2.2.1 0 255 && decide (u.2.2.2.2.1.length ≤ 64) && u.2.2.2.2.1.all fun n => inB n 0 255

/-- may an update be? -/
def mayU (u : Up) : Bool :=
  if u.1 = 0 ∨ u.1 = 1 then tabB u && hasRows u.2.2.1 && hasCall u.2.2.1.2.2.2.2.1
  else if u.1 = 2 then tabB u && hasRows u.2.2.1 && noCall u.2.2.1.2.2.2.2.1
  else if u.1 = 3 then tabB u && noRows u.2.2.1 && hasCall u.2.2.1.2.2.2.2.1
  else if u.1 = 4 then grpB u
  else false

def okL (l : List V4) : Prop := (∀ v ∈ l, okV v) ∧ l.length ≤ 1000
def okU (u : Up) : Prop := okL u.2.2.1.1 ∧ okL u.2.2.1.2.1 ∧ okL u.2.2.1.2.2.2.2.1.2.1 ∧ u.2.2.2.2.1.length ≤ 1000

theorem bor (b : Bool) : b = false ∨ b = true := by cases b <;> simp

theorem blank_ok (x : En) : batch_blank x = some ((noRows x, ()), ()) := by
  unfold batch_blank noRows
  rcases bor x.1.isEmpty with h | h <;> simp only [gsome, dlen, h, cond_false, cond_true, Bool.false_and, Bool.true_and]
  rcases bor x.2.1.isEmpty with h | h <;> simp only [h, cond_false, cond_true, Bool.false_and, Bool.true_and]
  rcases bor (decide (x.2.2.1 = 0)) with h | h <;> simp only [h, cond_false, cond_true, Bool.false_and, Bool.true_and]

theorem match_ok {x : En} (h1 : okL x.1) (h2 : okL x.2.1) : batch_match x = some ((hasRows x, ()), ()) := by
  have e1 := batch_rows_ok (m := 4) h1.1 (by have := h1.2; omega)
  have e2 := batch_rows_ok (m := 4) h2.1 (by have := h2.2; omega)
  have e1 : batch_rows x.1 4 = _ := e1
  have e2 : batch_rows x.2.1 4 = _ := e2
  unfold batch_match hasRows
  rw [e1, Option.bind_some]
  dsimp only
  cases rowsB x.1 4 with
  | false => simp only [gfalse, gsome, cond_false, Bool.false_and]
  | true =>
    simp only [gtrue, gsome, cond_true, e2, Option.bind_some, Bool.true_and]
    cases rowsB x.2.1 4 with
    | false => simp only [gfalse, gsome, cond_false, Bool.false_and]
    | true =>
      simp only [gtrue, gsome, cond_true, within_ok, Option.bind_some, Bool.true_and]
      cases inB x.2.2.1 0 65535 with
      | false => simp only [gfalse, gsome, cond_false, Bool.false_and]
      | true => simp only [gtrue, gsome, cond_true, Option.bind_some, Bool.true_and]

theorem call_ok {c : Cl} (h : okL c.2.1) : batch_call c = some ((hasCall c, ()), ()) := by
  have e1 : batch_rows c.2.1 8 = _ := batch_rows_ok (m := 8) h.1 (by have := h.2; omega)
  unfold batch_call hasCall
  rw [within_ok, Option.bind_some]
  dsimp only
  cases inB c.1 0 255 with
  | false => simp only [gfalse, gsome, cond_false, Bool.false_and]
  | true => simp only [gtrue, gsome, cond_true, e1, Option.bind_some, Bool.true_and]

theorem contains_ports {l : List Int} (hn : l.length ≤ 1000000) : slices_ContainsFunc_int_int_6be l = some ((l.any fun n => !inB n 0 255, ()), ()) := by
  unfold slices_ContainsFunc_int_int_6be slices_IndexFunc_int_int_6be
  obtain ⟨i, h1, h2⟩ := idx_any (p := fun n => !inB n 0 255) (f := fun (z : ((List Int) × Int × Int × Unit) × Unit) => slices_IndexFunc_int_int_6be_s0 z.1.1 z.1.2.1 z.1.2.2.1) l
    (fun i h => by
      dsimp only
      unfold slices_IndexFunc_int_int_6be_s0 batch_group_1
      rw [dlt h, cond_true, rdI_get h, Option.bind_some, within_ok]
      simp only [Option.bind_some, wi64 (show i < 1000000000 by omega)])
    (by
      dsimp only
      unfold slices_IndexFunc_int_int_6be_s0
      rw [dge, cond_false])
  rw [h1, Option.bind_some, h2]

theorem group_ok {u : Up} (h : okU u) : batch_group u = some ((grpB u, ()), ()) := by
  have hp := contains_ports (l := u.2.2.2.2.1) (by have := h.2.2.2; omega)
  have hd : decide ((u.2.2.2.2.1.length : Int) ≤ 64) = decide (u.2.2.2.2.1.length ≤ 64) := decide_eq_decide.2 (by omega)
  unfold batch_group grpB noCall
  have he : ((u.2.2.1.1, u.2.2.1.2.1, u.2.2.1.2.2.1, u.2.2.1.2.2.2.1, (u.2.2.1.2.2.2.2.1.1, u.2.2.1.2.2.2.2.1.2.1, ()), ()) : En) = u.2.2.1 := rfl
  rw [he]
  rcases bor (decide (u.2.1 = 0)) with h | h <;> simp only [h, gfalse, gtrue, gsome, cond_false, cond_true, blank_ok, Option.bind_some, Bool.false_and, Bool.true_and]
  rcases bor (noRows u.2.2.1) with h | h <;> simp only [h, gfalse, gtrue, gsome, cond_false, cond_true, Option.bind_some, Bool.false_and, Bool.true_and]
  rcases bor (decide (u.2.2.1.2.2.2.2.1.1 = 0)) with h | h <;> simp only [h, gfalse, gtrue, gsome, cond_false, cond_true, dlen, Option.bind_some, Bool.false_and, Bool.true_and]
  rcases bor u.2.2.1.2.2.2.2.1.2.1.isEmpty with h | h <;> simp only [h, gfalse, gtrue, gsome, cond_false, cond_true, within_ok, Option.bind_some, Bool.false_and, Bool.true_and]
  rcases bor (inB u.2.2.2.1 0 255) with h | h <;> simp only [h, gfalse, gtrue, gsome, cond_false, cond_true, hd, Option.bind_some, Bool.false_and, Bool.true_and]
  rcases bor (decide (u.2.2.2.2.1.length ≤ 64)) with h | h <;> simp only [h, gfalse, gtrue, gsome, cond_false, cond_true, hp, Option.bind_some, Bool.false_and, Bool.true_and, all_any]

theorem matches_ok (k : Int) : batch_matches k = some ((decide (k = 0) || decide (k = 1) || decide (k = 2), ()), ()) := by
  unfold batch_matches
  simp only [gsome]
  cases decide (k = 0) <;> cases decide (k = 1) <;> cases decide (k = 2) <;> rfl

theorem calls_ok (k : Int) : batch_calls k = some ((decide (k = 0) || decide (k = 1) || decide (k = 3), ()), ()) := by
  unfold batch_calls
  simp only [gsome]
  cases decide (k = 0) <;> cases decide (k = 1) <;> cases decide (k = 3) <;> rfl

end Go.L

namespace Go.L
open Go Go.Pv
set_option maxRecDepth 100000

abbrev K4 := Int × Int × Int × Unit
abbrev Slot := Bool × (K4 × Int × Unit) × Unit
abbrev Mp := List Slot × Int × Int × Unit

def sZ : Slot := (false, ((0, 0, 0, ()), 0, ()), ())
def sl (l : List Slot) (i : Nat) : Slot := l.getD i sZ
def us (l : List Slot) (i : Nat) : Bool := (sl l i).1
def ky (l : List Slot) (i : Nat) : K4 := (sl l i).2.1.1

/-- how far it is to another slot, going round -/
def ds (s a b : Nat) : Nat := if a ≤ b then b - a else b + s - a
def nx (s i : Nat) : Nat := if i + 1 = s then 0 else i + 1

theorem ds_lt {s a b : Nat} (ha : a < s) (hb : b < s) : ds s a b < s := by unfold ds; split <;> omega
theorem ds_self (s a : Nat) : ds s a a = 0 := by unfold ds; rw [if_pos (Nat.le_refl _)]; omega
theorem ds_inj {s h x y : Nat} (hh : h < s) (hx : x < s) (hy : y < s) (e : ds s h x = ds s h y) : x = y := by
  unfold ds at e
  split at e <;> split at e <;> omega
theorem nx_lt {s i : Nat} (hi : i < s) : nx s i < s := by unfold nx; split <;> omega
theorem ds_nx {s h i : Nat} (hh : h < s) (hi : i < s) (hd : ds s h i + 1 < s) : ds s h (nx s i) = ds s h i + 1 := by
  unfold ds nx at *
  split at hd <;> split <;> split <;> omega

theorem sl_set {l : List Slot} {i j : Nat} {v : Slot} (hi : i < l.length) : sl (l.set i v) j = if i = j then v else sl l j := by
  unfold sl
  simp only [List.getD_eq_getElem?_getD, List.getElem?_set]
  split
  · rename_i e; subst e; simp [hi]
  · rfl

theorem sl_get {l : List Slot} {i : Nat} (h : i < l.length) : sl l i = l[i] := by
  unfold sl
  simp [List.getD_eq_getElem?_getD, List.getElem?_eq_getElem h]

theorem rdI_sl {l : List Slot} {i : Nat} (h : i < l.length) : rdI l (i : Int) = some (sl l i) := by
  unfold rdI
  rw [if_pos (by omega), Int.toNat_natCast, List.getElem?_eq_getElem h, sl_get h]

theorem ckN {α : Type} {l : List α} {i : Nat} (h : i < l.length) : Option.map (fun _ => (i : Int)) (ckI (i : Int) l.length) = some (i : Int) := by
  unfold ckI
  rw [if_pos ⟨by omega, by omega⟩]; rfl

theorem stI_nat {α : Type} {l : List α} {i : Nat} {v : α} (h : i < l.length) : stI l (i : Int) v = some (l.set i v) := by
  unfold stI
  rw [if_pos ⟨by omega, by omega⟩, Int.toNat_natCast]

/-! ### where a row would lie -/
def hstep (h v : Int) : Int := bitsI .xor .u64 (IntKind.u64.wrap (bitsI .xor .u64 h v * 1099511628211)) ((IntKind.u64.wrap (bitsI .xor .u64 h v * 1099511628211)).fdiv (2 ^ 32))
def hsh (k : K4) : Int := hstep (hstep (hstep 14695981039346656037 (IntKind.u64.wrap k.1)) k.2.1) k.2.2.1
def hm (s : Nat) (k : K4) : Nat := (hsh k).toNat % s

theorem hsh_nn (k : K4) : 0 ≤ hsh k := by
  unfold hsh hstep
  generalize IntKind.u64.wrap (bitsI .xor .u64 _ k.2.2.1 * 1099511628211) = t
  show 0 ≤ IntKind.u64.wrap ((BitVec.ofInt 64 t ^^^ BitVec.ofInt 64 (t.fdiv (2 ^ 32))).toNat : Int)
  rw [wrapu]
  omega

theorem home_ok {l : List Slot} {n m : Int} {k : K4} (h0 : 0 < l.length) (h1 : l.length ≤ 100000) : exact_Map_home_ca4 (l, n, m, ()) k = some ((((hm l.length k : Nat) : Int), ()), (l, n, m, ()), ()) := by
  unfold exact_Map_home_ca4
  have st : ∀ (h v : Int) (w : List Int) (i : Nat), i < 3 → rdI w (i : Int) = some v → (fun (z : (Int × (List Int) × Int × Unit) × (Mp × Unit)) => exact_Map_home_ca4_s0 z.1.1 z.1.2.1 z.1.2.2.1 z.2.1) ((h, w, (i : Int), ()), (l, n, m, ()), ()) = some (.inl ((hstep h v, w, ((i + 1 : Nat) : Int), ()), (l, n, m, ()), ())) := by
    intro h v w i hi hr
    dsimp only
    unfold exact_Map_home_ca4_s0
    rw [decide_eq_true (show (i : Int) < 3 by omega), cond_true, hr, Option.bind_some, wi64 (by omega)]
    rfl
  refine loopR_on (st _ (IntKind.u64.wrap k.1) _ 0 (by omega) rfl) (loopR_on (st _ k.2.1 _ 1 (by omega) rfl) (loopR_on (st _ k.2.2.1 _ 2 (by omega) rfl) (loopR_out ?_)))
  dsimp only
  unfold exact_Map_home_ca4_s0
  have hn := hsh_nn k
  have hx : hstep (hstep (hstep 14695981039346656037 (IntKind.u64.wrap k.1)) k.2.1) k.2.2.1 = hsh k := rfl
  rw [hx, decide_eq_false (by omega), cond_false]
  have hw : IntKind.u64.wrap (l.length : Int) = (l.length : Int) := wu64 (by omega)
  have hr : remI (hsh k) (l.length : Int) = some ((hm l.length k : Nat) : Int) := by
    unfold remI hm
    rw [if_neg (by omega)]
    obtain ⟨q, hq⟩ : ∃ q : Nat, hsh k = (q : Int) := ⟨(hsh k).toNat, by omega⟩
    rw [hq, Int.toNat_natCast, (Int.ofNat_tmod q l.length).symm]
  have hlt : hm l.length k < l.length := Nat.mod_lt _ h0
  rw [hw, hr, Option.bind_some, wrap_i64 (by omega) (by omega)]
  rfl

theorem next_ok {l : List Slot} {n m : Int} {i : Nat} (hi : i < l.length) (h1 : l.length ≤ 100000) : exact_Map_next_deb (l, n, m, ()) (i : Int) = some ((((nx l.length i : Nat) : Int), ()), (l, n, m, ()), ()) := by
  unfold exact_Map_next_deb
  rw [wi64 (by omega)]
  have hr : remI ((i + 1 : Nat) : Int) (l.length : Int) = some ((nx l.length i : Nat) : Int) := by
    unfold remI nx
    rw [if_neg (by omega)]
    congr 1
    have := (Int.ofNat_tmod (i + 1) l.length).symm
    refine Eq.trans this ?_
    congr 1
    split
    · rename_i e; rw [e, Nat.mod_self]
    · exact Nat.mod_eq_of_lt (by omega)
  rw [hr]
  rfl

theorem keq (v w : K4) : (decide (v.1 = w.1) && (decide (v.2.1 = w.2.1) && decide (v.2.2.1 = w.2.2.1))) = decide (v = w) := by
  obtain ⟨a, b, c, _⟩ := v
  obtain ⟨a', b', c', _⟩ := w
  simp only [Prod.mk.injEq, Bool.decide_and, and_true]

/-- the walk: to the row, or to the first slot without any -/
theorem find_walk {l : List Slot} {n m : Int} {k : K4} (h1 : l.length ≤ 100000) {e : Nat} (he : e < l.length) (hu : us l e = false) :
    ∃ (j : Nat) (b : Bool), exact_Map_find_ca4 (l, n, m, ()) k = some (((j : Int), b, ()), (l, n, m, ()), ()) ∧ j < l.length ∧ (b = true → us l j = true ∧ ky l j = k) ∧
      (b = false → us l j = false ∧ ∀ x, x < l.length → ds l.length (hm l.length k) x < ds l.length (hm l.length k) j → us l x = true ∧ ky l x ≠ k) := by
  have h0 : 0 < l.length := by omega
  have hh : hm l.length k < l.length := Nat.mod_lt _ h0
  unfold exact_Map_find_ca4
  have hk : (k.1, k.2.1, k.2.2.1, ()) = k := rfl
  dsimp only
  rw [hk, home_ok h0 h1, Option.bind_some]
  dsimp only
  generalize hs : hm l.length k = h at *
  have main : ∀ r i : Nat, i < l.length → ds l.length h i ≤ ds l.length h e → ds l.length h e - ds l.length h i = r → (∀ x, x < l.length → ds l.length h x < ds l.length h i → us l x = true ∧ ky l x ≠ k) →
      ∃ (j : Nat) (b : Bool), loopR (fun (z : (Int × Unit) × (K4 × Mp × Unit)) => exact_Map_find_ca4_s0 z.1.1 z.2.1 z.2.2.1) (((i : Int), ()), k, (l, n, m, ()), ()) = some (((j : Int), b, ()), (l, n, m, ()), ()) ∧ j < l.length ∧ (b = true → us l j = true ∧ ky l j = k) ∧
        (b = false → us l j = false ∧ ∀ x, x < l.length → ds l.length h x < ds l.length h j → us l x = true ∧ ky l x ≠ k) := by
    intro r
    induction r with
    | zero =>
      intro i hi hd hr hp
      have hie : i = e := ds_inj hh hi he (by omega)
      subst hie
      refine ⟨i, false, loopR_out ?_, hi, by simp, fun _ => ⟨hu, hp⟩⟩
      dsimp only
      unfold exact_Map_find_ca4_s0
      dsimp only
      have hu : (sl l i).1 = false := hu
      rw [ckN hi, Option.bind_some, rdI_sl hi, Option.map_some, Option.bind_some, hu, cond_false]
    | succ r ih =>
      intro i hi hd hr hp
      cases hui : us l i with
      | false =>
        refine ⟨i, false, loopR_out ?_, hi, by simp, fun _ => ⟨hui, hp⟩⟩
        dsimp only
        unfold exact_Map_find_ca4_s0
        dsimp only
        have hu : (sl l i).1 = false := hui
        rw [ckN hi, Option.bind_some, rdI_sl hi, Option.map_some, Option.bind_some, hu, cond_false]
      | true =>
        have hu' : (sl l i).1 = true := hui
        by_cases hki : ky l i = k
        · refine ⟨i, true, loopR_out ?_, hi, fun _ => ⟨hui, hki⟩, by simp⟩
          dsimp only
          unfold exact_Map_find_ca4_s0
          dsimp only
          rw [ckN hi, Option.bind_some, rdI_sl hi, Option.map_some, Option.bind_some, hu', cond_true]
          simp only [Option.bind_some, Option.map_some, rdI_sl hi]
          have hki : (sl l i).2.1.1 = k := hki
          rw [hki, keq, decide_eq_true rfl, cond_true]
        · have hlt := ds_lt hh he
          have hn := ds_nx hh hi (by omega)
          obtain ⟨j, b, e1, e2⟩ := ih (nx l.length i) (nx_lt hi) (by omega) (by omega) (fun x hx hdx => by
            rw [hn] at hdx
            by_cases hxe : ds l.length h x = ds l.length h i
            · have := ds_inj hh hx hi hxe
              subst this
              exact ⟨hui, hki⟩
            · exact hp x hx (by omega))
          refine ⟨j, b, loopR_on ?_ e1, e2⟩
          dsimp only
          unfold exact_Map_find_ca4_s0
          dsimp only
          rw [ckN hi, Option.bind_some, rdI_sl hi, Option.map_some, Option.bind_some, hu', cond_true]
          simp only [Option.bind_some, Option.map_some, rdI_sl hi]
          have hki : ¬ (sl l i).2.1.1 = k := hki
          rw [keq, decide_eq_false hki, cond_false, next_ok hi h1]
          rfl
  exact main _ h hh (by rw [ds_self]; omega) rfl (fun x hx hd => by rw [ds_self] at hd; omega)

end Go.L

namespace Go.L
open Go Go.Pv
set_option maxRecDepth 100000

/-- what a map keeps -/
structure Ivt (most n : Nat) (l : List Slot) : Prop where
  m1 : 1 ≤ most
  big : 2 * most ≤ l.length
  sm : l.length ≤ 1024
  cnt : l.countP (·.1) = n
  nm : n ≤ most
  emp : ∀ i, i < l.length → us l i = false → sl l i = sZ
  dis : ∀ i j, i < l.length → j < l.length → us l i = true → us l j = true → ky l i = ky l j → i = j
  rch : ∀ k, k < l.length → us l k = true → ∀ x, x < l.length → ds l.length (hm l.length (ky l k)) x < ds l.length (hm l.length (ky l k)) k → us l x = true

theorem free_of {l : List Slot} {n : Nat} (hc : l.countP (·.1) = n) (hn : n < l.length) : ∃ e, e < l.length ∧ us l e = false := by
  apply Classical.byContradiction
  intro h
  have : l.countP (·.1) = l.length := by
    rw [List.countP_eq_length]
    intro a ha
    obtain ⟨i, hi, rfl⟩ := List.getElem_of_mem ha
    cases hu : l[i].1 with
    | true => rfl
    | false => exact absurd ⟨i, hi, by unfold us; rw [sl_get hi]; exact hu⟩ h
  omega

theorem Ivt.free {most n : Nat} {l : List Slot} (h : Ivt most n l) : ∃ e, e < l.length ∧ us l e = false := by
  have := h.m1; have := h.big; have := h.nm
  exact free_of h.cnt (by omega)

def has (l : List Slot) (k : K4) (v : Int) : Prop := ∃ i, i < l.length ∧ sl l i = (true, (k, v, ()), ())

theorem slot_eta {x : Slot} (h : x.1 = true) : x = (true, (x.2.1.1, x.2.1.2.1, ()), ()) := by
  obtain ⟨a, ⟨b, c, _⟩, _⟩ := x
  have h : a = true := h
  rw [h]

theorem has_one {l : List Slot} {most n : Nat} (h : Ivt most n l) {k : K4} {v v' : Int} (h1 : has l k v) (h2 : has l k v') : v = v' := by
  obtain ⟨i, hi, ei⟩ := h1
  obtain ⟨j, hj, ej⟩ := h2
  have := h.dis i j hi hj (by unfold us; rw [ei]) (by unfold us; rw [ej]) (by unfold ky; rw [ei, ej])
  subst this
  rw [ei] at ej
  simp only [Prod.mk.injEq] at ej
  exact ej.2.1.2.1

/-- what the walk finds -/
theorem find_ok {l : List Slot} {most n : Nat} (h : Ivt most n l) (N M : Int) (k : K4) : ∃ j, j < l.length ∧
    ((∃ v, exact_Map_find_ca4 (l, N, M, ()) k = some (((j : Int), true, ()), (l, N, M, ()), ()) ∧ sl l j = (true, (k, v, ()), ())) ∨
     (exact_Map_find_ca4 (l, N, M, ()) k = some (((j : Int), false, ()), (l, N, M, ()), ()) ∧ us l j = false ∧ (∀ v, ¬ has l k v) ∧ ∀ x, x < l.length → ds l.length (hm l.length k) x < ds l.length (hm l.length k) j → us l x = true)) := by
  obtain ⟨e, he, hue⟩ := h.free
  have := h.sm
  obtain ⟨j, b, h1, hj, ht, hf⟩ := find_walk (n := N) (m := M) (k := k) (by omega) he hue
  refine ⟨j, hj, ?_⟩
  cases b with
  | true =>
    obtain ⟨hu, hk⟩ := ht rfl
    refine .inl ⟨(sl l j).2.1.2.1, h1, ?_⟩
    have := slot_eta hu
    have hk : (sl l j).2.1.1 = k := hk
    rw [hk] at this
    exact this
  | false =>
    obtain ⟨hu, hp⟩ := hf rfl
    refine .inr ⟨h1, hu, ?_, fun x hx hd => (hp x hx hd).1⟩
    rintro v ⟨i, hi, ei⟩
    have hui : us l i = true := by unfold us; rw [ei]
    have hki : ky l i = k := by unfold ky; rw [ei]
    have hh : hm l.length k < l.length := Nat.mod_lt _ (by omega)
    rcases Nat.lt_trichotomy (ds l.length (hm l.length k) i) (ds l.length (hm l.length k) j) with hd | hd | hd
    · exact (hp i hi hd).2 hki
    · have := ds_inj hh hi hj hd
      subst this
      rw [hu] at hui; cases hui
    · have := h.rch i hi hui j hj (by rw [hki]; exact hd)
      rw [hu] at this; cases this

theorem may_map {l : List Slot} {N M : Int} {k : K4} (hk : okV k) : exact_Map_may_ca4 (l, N, M, ()) k = some ((mayV k, ()), (l, N, M, ()), ()) := by
  unfold exact_Map_may_ca4
  have he : (k.1, k.2.1, k.2.2.1, ()) = k := rfl
  rw [he, (mayV_ok hk).1]; rfl

theorem us_set {l : List Slot} {i j : Nat} {v : Slot} (hi : i < l.length) : us (l.set i v) j = if i = j then v.1 else us l j := by
  unfold us
  rw [sl_set hi]
  split <;> rfl

theorem ky_set {l : List Slot} {i j : Nat} {v : Slot} (hi : i < l.length) : ky (l.set i v) j = if i = j then v.2.1.1 else ky l j := by
  unfold ky
  rw [sl_set hi]
  split <;> rfl

theorem cnt_set {l : List Slot} {i : Nat} {v : Slot} (hi : i < l.length) : (l.set i v).countP (·.1) + (if us l i = true then 1 else 0) = l.countP (·.1) + (if v.1 = true then 1 else 0) := by
  have := List.countP_set (p := fun x : Slot => x.1) (l := l) (i := i) (a := v) hi
  have hu : us l i = l[i].1 := by unfold us; rw [sl_get hi]
  rw [hu, this]
  have hle : (if l[i].1 = true then 1 else 0) ≤ l.countP (fun x : Slot => x.1) := by
    split
    · rename_i h
      exact List.countP_pos_iff.2 ⟨l[i], List.getElem_mem hi, h⟩
    · omega
  omega

/-- a row that is put into the slot that the walk found -/
theorem put_in {l : List Slot} {most n : Nat} (h : Ivt most n l) {k : K4} {v : Int} {j : Nat} (hj : j < l.length) (hn : n < most) (hu : us l j = false) (ha : ∀ v, ¬ has l k v) (hp : ∀ x, x < l.length → ds l.length (hm l.length k) x < ds l.length (hm l.length k) j → us l x = true) :
    Ivt most (n + 1) (l.set j (true, (k, v, ()), ())) ∧ ∀ k' v', has (l.set j (true, (k, v, ()), ())) k' v' ↔ has l k' v' ∨ (k' = k ∧ v' = v) := by
  have hlen : (l.set j (true, (k, v, ()), ())).length = l.length := List.length_set
  have hold : ∀ i, us l i = true → j ≠ i := fun i hi e => by rw [← e, hu] at hi; cases hi
  have hnk : ∀ i, i < l.length → us l i = true → ky l i ≠ k := by
    intro i hi hui hki
    refine ha (sl l i).2.1.2.1 ⟨i, hi, ?_⟩
    have := slot_eta hui
    have hki : (sl l i).2.1.1 = k := hki
    rw [hki] at this
    exact this
  constructor
  · refine ⟨h.m1, by rw [hlen]; exact h.big, by rw [hlen]; exact h.sm, ?_, by omega, ?_, ?_, ?_⟩
    · have := cnt_set (v := ((true, (k, v, ()), ()) : Slot)) hj
      rw [hu, h.cnt] at this
      simpa using this
    · intro i hi hui
      rw [hlen] at hi
      rw [us_set hj] at hui
      rw [sl_set hj]
      split at hui
      · cases hui
      · rename_i hne; rw [if_neg hne]; exact h.emp i hi hui
    · intro a b ha hb hua hub hk
      rw [hlen] at ha hb
      rw [us_set hj] at hua hub
      rw [ky_set hj, ky_set hj] at hk
      by_cases ea : j = a
      · by_cases eb : j = b
        · rw [← ea, ← eb]
        · rw [if_neg eb] at hub hk
          rw [if_pos ea] at hk
          exact absurd hk.symm (hnk b hb hub)
      · by_cases eb : j = b
        · rw [if_neg ea] at hua hk
          rw [if_pos eb] at hk
          exact absurd hk (hnk a ha hua)
        · rw [if_neg ea] at hua hk
          rw [if_neg eb] at hub hk
          exact h.dis a b ha hb hua hub hk
    · intro a ha hua x hx hd
      rw [hlen] at ha hx hd
      rw [us_set hj] at hua ⊢
      rw [ky_set hj] at hd
      split
      · rfl
      · by_cases ea : j = a
        · rw [if_pos ea] at hd
          rw [← ea] at hd
          exact hp x hx hd
        · rw [if_neg ea] at hua hd
          exact h.rch a ha hua x hx hd
  · intro k' v'
    constructor
    · rintro ⟨i, hi, e⟩
      rw [hlen] at hi
      rw [sl_set hj] at e
      split at e
      · simp only [Prod.mk.injEq, and_true, true_and] at e
        exact .inr ⟨e.1.symm, e.2.symm⟩
      · exact .inl ⟨i, hi, e⟩
    · rintro (⟨i, hi, e⟩ | ⟨rfl, rfl⟩)
      · refine ⟨i, by rw [hlen]; exact hi, ?_⟩
        rw [sl_set hj, if_neg (hold i (by unfold us; rw [e])), e]
      · exact ⟨j, by rw [hlen]; exact hj, by rw [sl_set hj, if_pos rfl]⟩

/-- another number for a row -/
theorem set_in {l : List Slot} {most n : Nat} (h : Ivt most n l) {k : K4} {v w : Int} {j : Nat} (hj : j < l.length) (hs : sl l j = (true, (k, w, ()), ())) :
    Ivt most n (l.set j (true, (k, v, ()), ())) ∧ ∀ k' v', has (l.set j (true, (k, v, ()), ())) k' v' ↔ (k' ≠ k ∧ has l k' v') ∨ (k' = k ∧ v' = v) := by
  have hlen : (l.set j (true, (k, v, ()), ())).length = l.length := List.length_set
  have huj : us l j = true := by unfold us; rw [hs]
  have hkj : ky l j = k := by unfold ky; rw [hs]
  have hus : ∀ i, us (l.set j (true, (k, v, ()), ())) i = us l i := by
    intro i
    rw [us_set hj]
    split
    · rename_i e; rw [← e, huj]
    · rfl
  have hky : ∀ i, ky (l.set j (true, (k, v, ()), ())) i = ky l i := by
    intro i
    rw [ky_set hj]
    split
    · rename_i e; rw [← e, hkj]
    · rfl
  constructor
  · refine ⟨h.m1, by rw [hlen]; exact h.big, by rw [hlen]; exact h.sm, ?_, h.nm, ?_, ?_, ?_⟩
    · have := cnt_set (v := ((true, (k, v, ()), ()) : Slot)) hj
      rw [huj, h.cnt] at this
      simpa using this
    · intro i hi hui
      rw [hlen] at hi
      rw [hus] at hui
      rw [sl_set hj]
      split
      · rename_i e; rw [← e, huj] at hui; cases hui
      · exact h.emp i hi hui
    · intro a b ha hb hua hub hk
      rw [hlen] at ha hb
      rw [hus] at hua hub
      rw [hky, hky] at hk
      exact h.dis a b ha hb hua hub hk
    · intro a ha hua x hx hd
      rw [hlen] at ha hx hd
      rw [hus] at hua ⊢
      rw [hky] at hd
      exact h.rch a ha hua x hx hd
  · intro k' v'
    constructor
    · rintro ⟨i, hi, e⟩
      rw [hlen] at hi
      rw [sl_set hj] at e
      split at e
      · simp only [Prod.mk.injEq, and_true, true_and] at e
        exact .inr ⟨e.1.symm, e.2.symm⟩
      · rename_i hne
        refine .inl ⟨fun ek => hne ?_, ⟨i, hi, e⟩⟩
        exact h.dis j i hj hi huj (by unfold us; rw [e]) (by rw [hkj]; unfold ky; rw [e]; exact ek.symm)
    · rintro (⟨hne, i, hi, e⟩ | ⟨rfl, rfl⟩)
      · refine ⟨i, by rw [hlen]; exact hi, ?_⟩
        rw [sl_set hj, if_neg, e]
        intro ej
        subst ej
        rw [hs] at e
        simp only [Prod.mk.injEq, and_true, true_and] at e
        exact hne e.1.symm
      · exact ⟨j, by rw [hlen]; exact hj, by rw [sl_set hj, if_pos rfl]⟩

theorem put_ok {l : List Slot} {most n : Nat} (h : Ivt most n l) {k : K4} {v : Int} (hk : okV k) :
    (mayV k = false ∧ exact_Map_Put_767 (l, (n : Int), (most : Int), ()) k v = some ((1, ()), (l, (n : Int), (most : Int), ()), ())) ∨
    (mayV k = true ∧ (∃ w, has l k w) ∧ exact_Map_Put_767 (l, (n : Int), (most : Int), ()) k v = some ((6, ()), (l, (n : Int), (most : Int), ()), ())) ∨
    (mayV k = true ∧ (∀ w, ¬ has l k w) ∧ n = most ∧ exact_Map_Put_767 (l, (n : Int), (most : Int), ()) k v = some ((8, ()), (l, (n : Int), (most : Int), ()), ())) ∨
    (mayV k = true ∧ (∀ w, ¬ has l k w) ∧ n < most ∧ ∃ l', exact_Map_Put_767 (l, (n : Int), (most : Int), ()) k v = some ((0, ()), (l', ((n + 1 : Nat) : Int), (most : Int), ()), ()) ∧ Ivt most (n + 1) l' ∧ ∀ k' v', has l' k' v' ↔ has l k' v' ∨ (k' = k ∧ v' = v)) := by
  have hke : (k.1, k.2.1, k.2.2.1, ()) = k := rfl
  unfold exact_Map_Put_767
  dsimp only
  rw [hke, may_map hk, Option.bind_some]
  dsimp only
  cases hm : mayV k with
  | false => exact .inl ⟨rfl, rfl⟩
  | true =>
    right
    simp only [Bool.not_true, cond_false]
    obtain ⟨j, hj, ⟨w, e, hs⟩ | ⟨e, hu, ha, hp⟩⟩ := find_ok h (n : Int) (most : Int) k
    · left
      refine ⟨trivial, ⟨w, j, hj, hs⟩, ?_⟩
      rw [e]; rfl
    · right
      rw [e, Option.bind_some]
      dsimp only
      simp only [cond_false]
      have := h.nm
      have := h.sm
      have := h.big
      by_cases hn : n = most
      · left
        refine ⟨trivial, ha, hn, ?_⟩
        rw [decide_eq_true (by omega), cond_true]
      · right
        obtain ⟨h1, h2⟩ := put_in (v := v) h hj (by omega) hu ha hp
        refine ⟨trivial, ha, by omega, _, ?_, h1, h2⟩
        rw [decide_eq_false (by omega), cond_false, ckN hj, Option.bind_some, stI_nat hj, Option.map_some, Option.bind_some]
        dsimp only
        rw [wi64 (by omega)]

theorem set_ok {l : List Slot} {most n : Nat} (h : Ivt most n l) {k : K4} {v : Int} (hk : okV k) :
    (mayV k = false ∧ exact_Map_Set_767 (l, (n : Int), (most : Int), ()) k v = some ((1, ()), (l, (n : Int), (most : Int), ()), ())) ∨
    (mayV k = true ∧ (∀ w, ¬ has l k w) ∧ exact_Map_Set_767 (l, (n : Int), (most : Int), ()) k v = some ((5, ()), (l, (n : Int), (most : Int), ()), ())) ∨
    (mayV k = true ∧ (∃ w, has l k w) ∧ ∃ l', exact_Map_Set_767 (l, (n : Int), (most : Int), ()) k v = some ((0, ()), (l', (n : Int), (most : Int), ()), ()) ∧ Ivt most n l' ∧ ∀ k' v', has l' k' v' ↔ (k' ≠ k ∧ has l k' v') ∨ (k' = k ∧ v' = v)) := by
  have hke : (k.1, k.2.1, k.2.2.1, ()) = k := rfl
  unfold exact_Map_Set_767
  dsimp only
  rw [hke, may_map hk, Option.bind_some]
  dsimp only
  cases hm : mayV k with
  | false => exact .inl ⟨rfl, rfl⟩
  | true =>
    right
    simp only [Bool.not_true, cond_false]
    obtain ⟨j, hj, ⟨w, e, hs⟩ | ⟨e, hu, ha, hp⟩⟩ := find_ok h (n : Int) (most : Int) k
    · right
      obtain ⟨h1, h2⟩ := set_in (v := v) h hj hs
      refine ⟨trivial, ⟨w, j, hj, hs⟩, _, ?_, h1, h2⟩
      rw [e, Option.bind_some]
      simp only [Bool.not_true, cond_false, ckN hj, Option.bind_some, rdI_sl hj, hs, Option.map_some, stI_nat hj]
    · left
      refine ⟨trivial, ha, ?_⟩
      rw [e]; rfl

theorem get_ok {l : List Slot} {most n : Nat} (h : Ivt most n l) {k : K4} (hk : okV k) :
    (∃ v, mayV k = true ∧ has l k v ∧ exact_Map_Get_ca4 (l, (n : Int), (most : Int), ()) k = some ((v, true, ()), (l, (n : Int), (most : Int), ()), ())) ∨
    ((mayV k = false ∨ ∀ w, ¬ has l k w) ∧ exact_Map_Get_ca4 (l, (n : Int), (most : Int), ()) k = some ((0, false, ()), (l, (n : Int), (most : Int), ()), ())) := by
  have hke : (k.1, k.2.1, k.2.2.1, ()) = k := rfl
  unfold exact_Map_Get_ca4
  dsimp only
  rw [hke, may_map hk, Option.bind_some]
  dsimp only
  cases hm : mayV k with
  | false => exact .inr ⟨.inl rfl, rfl⟩
  | true =>
    simp only [Bool.not_true, cond_false]
    obtain ⟨j, hj, ⟨w, e, hs⟩ | ⟨e, hu, ha, hp⟩⟩ := find_ok h (n : Int) (most : Int) k
    · left
      refine ⟨w, trivial, ⟨j, hj, hs⟩, ?_⟩
      rw [e, Option.bind_some]
      simp only [ckN hj, Option.bind_some, rdI_sl hj, hs, Option.map_some]
    · right
      refine ⟨.inr ha, ?_⟩
      rw [e, Option.bind_some]
      have hz := h.emp j hj hu
      simp only [ckN hj, Option.bind_some, rdI_sl hj, hz, Option.map_some, sZ]

end Go.L

namespace Go.L
open Go Go.Pv
set_option maxRecDepth 100000

/-- how far behind a slot, going round -/
def cc (s e x : Nat) : Nat := ds s (nx s e) x

theorem cc_lt {s e x : Nat} (he : e < s) (hx : x < s) : cc s e x < s := ds_lt (nx_lt he) hx
theorem cc_inj {s e x y : Nat} (he : e < s) (hx : x < s) (hy : y < s) (h : cc s e x = cc s e y) : x = y := ds_inj (nx_lt he) hx hy h
theorem cc_self {s e : Nat} (he : e < s) : cc s e e = s - 1 := by
  unfold cc ds nx
  split <;> split <;> omega
theorem cc_nx {s e i : Nat} (he : e < s) (hi : i < s) (hd : cc s e i + 1 < s) : cc s e (nx s i) = cc s e i + 1 := ds_nx (nx_lt he) hi hd

theorem conv1 {s e h k x : Nat} (he : e < s) (hh : h < s) (hk : k < s) (hx : x < s) (h1 : cc s e h ≤ cc s e k) (h2 : ds s h x < ds s h k) : cc s e h ≤ cc s e x ∧ cc s e x < cc s e k := by
  unfold cc at *
  have ha := nx_lt he
  generalize nx s e = a at *
  unfold ds at *
  split at h1 <;> split at h1 <;> split at h2 <;> split at h2 <;> split <;> (try split) <;> omega

theorem conv2 {s e h k : Nat} (he : e < s) (hh : h < s) (hk : k < s) (h1 : ds s h k ≤ ds s h e) : cc s e h ≤ cc s e k := by
  unfold cc ds nx at *
  split at h1 <;> split at h1 <;> split <;> split <;> (try split) <;> omega

theorem conv3 {s e h k x : Nat} (he : e < s) (hh : h < s) (hk : k < s) (hx : x < s) (h1 : cc s e h ≤ cc s e x) (h2 : cc s e x < cc s e k) : ds s h x < ds s h k := by
  unfold cc at *
  have ha := nx_lt he
  generalize nx s e = a at *
  unfold ds at *
  split at h1 <;> split at h1 <;> split at h2 <;> (try split at h2) <;> split <;> (try split) <;> omega

theorem btw {s e h g i : Nat} (he : e < s) (hh : h < s) (hg : g < s) (hi : i < s) (h1 : cc s e g < cc s e i) (h2 : cc s e h ≤ cc s e i) : (g ≤ i → ((g < h ∧ h ≤ i) ↔ cc s e g < cc s e h)) ∧ (¬ g ≤ i → ((g < h ∨ h ≤ i) ↔ cc s e g < cc s e h)) := by
  unfold cc at *
  have ha := nx_lt he
  generalize nx s e = a at *
  unfold ds at *
  split at h1 <;> split at h1 <;> split at h2 <;> (try split at h2) <;> constructor <;> intro h3 <;> constructor <;> intro h4 <;> (try split) <;> (try split) <;> (try split at h4) <;> (try split at h4) <;> omega

theorem between_ok {s e h g i : Nat} (he : e < s) (hh : h < s) (hg : g < s) (hi : i < s) (h1 : cc s e g < cc s e i) (h2 : cc s e h ≤ cc s e i) : exact_between (h : Int) (g : Int) (i : Int) = some ((decide (cc s e g < cc s e h), ()), ()) := by
  obtain ⟨b1, b2⟩ := btw he hh hg hi h1 h2
  unfold exact_between
  by_cases hgi : g ≤ i
  · have b1 := b1 hgi
    rw [decide_eq_true (show (g : Int) ≤ (i : Int) by omega), cond_true]
    simp only [gsome]
    by_cases hgh : g < h
    · rw [decide_eq_true (show (h : Int) > (g : Int) by omega)]
      simp only [cond_true]
      have : decide ((h : Int) ≤ (i : Int)) = decide (cc s e g < cc s e h) := decide_eq_decide.2 ⟨fun q => b1.1 ⟨hgh, by omega⟩, fun q => by have := (b1.2 q).2; omega⟩
      rw [this]
    · rw [decide_eq_false (show ¬ (h : Int) > (g : Int) by omega), decide_eq_false (fun q => hgh (b1.2 q).1)]
      rfl
  · have b2 := b2 hgi
    rw [decide_eq_false (show ¬ (g : Int) ≤ (i : Int) by omega), cond_false]
    simp only [gsome]
    by_cases hgh : g < h
    · rw [decide_eq_true (show (h : Int) > (g : Int) by omega), decide_eq_true (b2.1 (.inl hgh))]
      rfl
    · rw [decide_eq_false (show ¬ (h : Int) > (g : Int) by omega)]
      simp only [Bool.not_false, cond_true, cond_false]
      have : decide ((h : Int) ≤ (i : Int)) = decide (cc s e g < cc s e h) := decide_eq_decide.2 ⟨fun q => b2.1 (.inr (by omega)), fun q => by rcases b2.2 q with q | q <;> omega⟩
      rw [this]

/-- what a row of slots keeps while things move up to a gap -/
structure Cls (s e g i : Nat) (l : List Slot) : Prop where
  len : l.length = s
  e_lt : e < s
  g_lt : g < s
  i_lt : i < s
  ue : us l e = false
  ug : us l g = false
  ge : g ≠ e
  gi : cc s e g < cc s e i
  emp : ∀ x, x < s → us l x = false → sl l x = sZ
  dis : ∀ x y, x < s → y < s → us l x = true → us l y = true → ky l x = ky l y → x = y
  h1 : ∀ k, k < s → us l k = true → cc s e (hm s (ky l k)) ≤ cc s e k ∧ ∀ x, x < s → cc s e (hm s (ky l k)) ≤ cc s e x → cc s e x < cc s e k → us l x = true ∨ x = g
  h2 : ∀ k, k < s → us l k = true → cc s e g < cc s e k → cc s e k < cc s e i → cc s e g < cc s e (hm s (ky l k))

structure Cld (s e : Nat) (l l' : List Slot) : Prop where
  len : l'.length = s
  ue : us l' e = false
  cnt : l'.countP (·.1) = l.countP (·.1)
  emp : ∀ x, x < s → us l' x = false → sl l' x = sZ
  dis : ∀ x y, x < s → y < s → us l' x = true → us l' y = true → ky l' x = ky l' y → x = y
  h1 : ∀ k, k < s → us l' k = true → cc s e (hm s (ky l' k)) ≤ cc s e k ∧ ∀ x, x < s → cc s e (hm s (ky l' k)) ≤ cc s e x → cc s e x < cc s e k → us l' x = true
  has : ∀ k v, has l' k v ↔ has l k v

theorem close_walk {s e : Nat} (hs : s ≤ 100000) (N M : Int) : ∀ r g i : Nat, ∀ l : List Slot, Cls s e g i l → s - 1 - cc s e i = r →
    ∃ l', loopR (fun (z : (Int × Int × Unit) × (Mp × Unit)) => exact_Map_close_deb_s0 z.1.1 z.1.2.1 z.2.1) (((g : Int), (i : Int), ()), (l, N, M, ()), ()) = some ((), (l', N, M, ()), ()) ∧ Cld s e l l' := by
  intro r
  induction r with
  | zero => ?_
  | succ r ih => ?_
  all_goals
    intro g i l h hr
    obtain ⟨hlen, he, hg, hi, hue, hug, hge, hgi, hemp, hdis, h1, h2⟩ := h
    have hil : i < l.length := by omega
    have hgl : g < l.length := by omega
    cases hui : us l i with
    | false =>
      refine ⟨l, loopR_out ?_, hlen, hue, rfl, hemp, hdis, ?_, fun _ _ => Iff.rfl⟩
      · dsimp only
        unfold exact_Map_close_deb_s0
        have hu : (sl l i).1 = false := hui
        dsimp only
        rw [ckN hil, Option.bind_some, rdI_sl hil, Option.map_some, Option.bind_some, hu, cond_false]
      · intro k hk huk
        obtain ⟨a1, a2⟩ := h1 k hk huk
        refine ⟨a1, fun x hx b1 b2 => ?_⟩
        rcases a2 x hx b1 b2 with hux | rfl
        · exact hux
        · exfalso
          rcases Nat.lt_trichotomy (cc s e k) (cc s e i) with hd | hd | hd
          · have := h2 k hk huk b2 hd
            omega
          · have := cc_inj he hk hi hd
            subst this
            rw [hui] at huk; cases huk
          · rcases a2 i hi (by omega) hd with q | q
            · rw [hui] at q; cases q
            · subst q; omega
    | true => ?_
  · -- the slot without any
    exfalso
    have : cc s e i = s - 1 := by
      have := cc_lt he hi
      omega
    rw [← cc_self he] at this
    have := cc_inj he hi he this
    subst this
    rw [hue] at hui; cases hui
  · have hu : (sl l i).1 = true := hui
    have hie : i ≠ e := fun q => by rw [q, hue] at hui; cases hui
    have hlt := cc_lt he hi
    have hne : cc s e i ≠ s - 1 := fun q => hie (cc_inj he hi he (by rw [q, cc_self he]))
    have hn := cc_nx he hi (by omega)
    obtain ⟨a1, a2⟩ := h1 i hi hui
    have hh : hm s (ky l i) < s := Nat.mod_lt _ (by omega)
    have hb := between_ok he hh hg hi hgi a1
    have hhome : exact_Map_home_ca4 (l, N, M, ()) (ky l i) = _ := home_ok (n := N) (m := M) (k := ky l i) (by omega) (by omega)
    rw [hlen] at hhome
    have hnext : ∀ l' : List Slot, l'.length = s → exact_Map_next_deb (l', N, M, ()) (i : Int) = some ((((nx s i : Nat) : Int), ()), (l', N, M, ()), ()) := by
      intro l' hl'
      have := next_ok (l := l') (n := N) (m := M) (i := i) (by omega) (by omega)
      rw [hl'] at this
      exact this
    by_cases hc : cc s e g < cc s e (hm s (ky l i))
    · -- it stays
      obtain ⟨l', e1, e2⟩ := ih g (nx s i) l ⟨hlen, he, hg, nx_lt hi, hue, hug, hge, by omega, hemp, hdis, h1, fun k hk huk b1 b2 => by
        rw [hn] at b2
        by_cases hki : cc s e k = cc s e i
        · have := cc_inj he hk hi hki
          subst this
          exact hc
        · exact h2 k hk huk b1 (by omega)⟩ (by omega)
      refine ⟨l', loopR_on ?_ e1, e2⟩
      dsimp only
      unfold exact_Map_close_deb_s0
      dsimp only
      have hk : (sl l i).2.1.1 = ky l i := rfl
      rw [ckN hil, Option.bind_some, rdI_sl hil, Option.map_some, Option.bind_some, hu, cond_true]
      simp only [Option.bind_some, Option.map_some, rdI_sl hil]
      rw [hk, hhome, Option.bind_some]
      dsimp only
      rw [hb, decide_eq_true hc, Option.bind_some]
      dsimp only
      rw [cond_true, hnext l hlen]
      rfl
    · -- it moves up to the gap
      have hgi' : g ≠ i := fun q => by subst q; omega
      let l2 := (l.set g (sl l i)).set i sZ
      have hl1 : (l.set g (sl l i)).length = l.length := List.length_set
      have hl2 : l2.length = s := by show ((l.set g (sl l i)).set i sZ).length = s; rw [List.length_set, hl1, hlen]
      have sl2 : ∀ x, sl l2 x = if i = x then sZ else if g = x then sl l i else sl l x := by
        intro x
        show sl ((l.set g (sl l i)).set i sZ) x = _
        rw [sl_set (by omega), sl_set hgl]
      have us2 : ∀ x, us l2 x = if i = x then false else if g = x then true else us l x := by
        intro x
        unfold us
        rw [sl2]
        split
        · rfl
        · split
          · exact hu
          · rfl
      have ky2 : ∀ x, i ≠ x → ky l2 x = if g = x then ky l i else ky l x := by
        intro x hx
        unfold ky
        rw [sl2, if_neg hx]
        split <;> rfl
      have hcls : Cls s e i (nx s i) l2 := by
        refine ⟨hl2, he, hi, nx_lt hi, ?_, ?_, hie, by omega, ?_, ?_, ?_, ?_⟩
        · rw [us2, if_neg hie, if_neg hge]; exact hue
        · rw [us2, if_pos rfl]
        · intro x hx hux
          rw [us2] at hux
          rw [sl2]
          split
          · rfl
          · rename_i hix
            rw [if_neg hix] at hux
            split
            · rename_i hgx; rw [if_pos hgx] at hux; cases hux
            · rename_i hgx; rw [if_neg hgx] at hux; exact hemp x hx hux
        · intro x y hx hy hux huy hk
          rw [us2] at hux huy
          have ix : i ≠ x := fun q => by rw [if_pos q] at hux; cases hux
          have iy : i ≠ y := fun q => by rw [if_pos q] at huy; cases huy
          rw [if_neg ix] at hux
          rw [if_neg iy] at huy
          rw [ky2 x ix, ky2 y iy] at hk
          by_cases gx : g = x
          · by_cases gy : g = y
            · rw [← gx, ← gy]
            · rw [if_neg gy] at huy hk
              rw [if_pos gx] at hk
              exact absurd (hdis i y hi hy hui huy hk) iy
          · by_cases gy : g = y
            · rw [if_neg gx] at hux hk
              rw [if_pos gy] at hk
              exact absurd (hdis x i hx hi hux hui hk).symm ix
            · rw [if_neg gx] at hux hk
              rw [if_neg gy] at huy hk
              exact hdis x y hx hy hux huy hk
        · intro k hk huk
          rw [us2] at huk
          have ik : i ≠ k := fun q => by rw [if_pos q] at huk; cases huk
          rw [if_neg ik] at huk
          rw [ky2 k ik]
          by_cases gk : g = k
          · rw [if_pos gk]
            subst gk
            refine ⟨by omega, fun x hx b1 b2 => .inl ?_⟩
            have xi : i ≠ x := fun q => by subst q; omega
            have xg : g ≠ x := fun q => by subst q; omega
            rw [us2, if_neg xi, if_neg xg]
            rcases a2 x hx b1 (by omega) with q | q
            · exact q
            · exact absurd q.symm xg
          · rw [if_neg gk] at huk ⊢
            obtain ⟨c1, c2⟩ := h1 k hk huk
            refine ⟨c1, fun x hx b1 b2 => ?_⟩
            by_cases xi : i = x
            · exact .inr xi.symm
            · left
              rw [us2, if_neg xi]
              rcases c2 x hx b1 b2 with q | q
              · split
                · rfl
                · exact q
              · rw [if_pos q.symm]
        · intro k hk huk b1 b2
          rw [hn] at b2
          omega
      obtain ⟨l', e1, e2⟩ := ih i (nx s i) l2 hcls (by omega)
      refine ⟨l', loopR_on ?_ e1, ⟨e2.len, e2.ue, ?_, e2.emp, e2.dis, e2.h1, fun k v => (e2.has k v).trans ?_⟩⟩
      · dsimp only
        unfold exact_Map_close_deb_s0
        dsimp only
        have hk : (sl l i).2.1.1 = ky l i := rfl
        rw [ckN hil, Option.bind_some, rdI_sl hil, Option.map_some, Option.bind_some, hu, cond_true]
        simp only [Option.bind_some, Option.map_some, rdI_sl hil]
        rw [hk, hhome, Option.bind_some]
        dsimp only
        rw [hb, decide_eq_false hc, Option.bind_some]
        dsimp only
        rw [cond_false, ckN hil, Option.bind_some, rdI_sl hil, Option.bind_some, ckN hgl, Option.bind_some, stI_nat hgl, Option.map_some, Option.bind_some]
        dsimp only
        rw [ckN (by omega), Option.bind_some]
        have hst : stI (l.set g (sl l i)) (i : Int) (false, ((0, 0, 0, ()), 0, ()), ()) = some l2 := stI_nat (by omega)
        rw [hst, Option.map_some, Option.bind_some, hnext l2 hl2]
        rfl
      · rw [e2.cnt]
        have k1 := cnt_set (l := l) (v := sl l i) hgl
        have k2 := cnt_set (l := l.set g (sl l i)) (i := i) (v := sZ) (by omega)
        rw [hug, hu] at k1
        rw [us_set hgl, if_neg hgi', hui] at k2
        have : ((sZ : Slot).1 = true) = False := by simp [sZ]
        simp only [this, if_false, if_true, Bool.false_eq_true] at k1 k2
        show ((l.set g (sl l i)).set i sZ).countP (·.1) = _
        omega
      · constructor
        · rintro ⟨x, hx, q⟩
          rw [sl2] at q
          split at q
          · simp [sZ] at q
          · split at q
            · exact ⟨i, hil, q⟩
            · exact ⟨x, by omega, q⟩
        · rintro ⟨x, hx, q⟩
          by_cases xi : i = x
          · subst xi
            exact ⟨g, by omega, by rw [sl2, if_neg (Ne.symm hgi'), if_pos rfl]; exact q⟩
          · have xg : g ≠ x := fun y => by
              subst y
              unfold us at hug
              rw [q] at hug; cases hug
            exact ⟨x, by omega, by rw [sl2, if_neg xi, if_neg xg]; exact q⟩

end Go.L

namespace Go.L
open Go Go.Pv
set_option maxRecDepth 100000

theorem loop_inv {σ ρ : Type} {f : σ → Option (σ ⊕ ρ)} {P : Nat → σ → Prop} {n : Nat} {r : ρ} (step : ∀ i x, i < n → P i x → ∃ y, f x = some (.inl y) ∧ P (i + 1) y) (stop : ∀ x, P n x → f x = some (.inr r)) : ∀ k i x, n - i = k → i ≤ n → P i x → loopR f x = some r := by
  intro k
  induction k with
  | zero =>
    intro i x hk hi hp
    have : i = n := by omega
    subst this
    exact loopR_out (stop x hp)
  | succ k ih =>
    intro i x hk hi hp
    obtain ⟨y, h1, h2⟩ := step i x (by omega) hp
    exact loopR_on h1 (ih (i + 1) y (by omega) (by omega) h2)

theorem drop_ok {l : List Slot} {most n : Nat} (h : Ivt most n l) {k : K4} (hk : okV k) :
    (mayV k = false ∧ exact_Map_Drop_ca4 (l, (n : Int), (most : Int), ()) k = some ((1, ()), (l, (n : Int), (most : Int), ()), ())) ∨
    (mayV k = true ∧ (∀ w, ¬ has l k w) ∧ exact_Map_Drop_ca4 (l, (n : Int), (most : Int), ()) k = some ((5, ()), (l, (n : Int), (most : Int), ()), ())) ∨
    (mayV k = true ∧ (∃ w, has l k w) ∧ 1 ≤ n ∧ ∃ l', exact_Map_Drop_ca4 (l, (n : Int), (most : Int), ()) k = some ((0, ()), (l', ((n - 1 : Nat) : Int), (most : Int), ()), ()) ∧ Ivt most (n - 1) l' ∧ ∀ k' v', has l' k' v' ↔ k' ≠ k ∧ has l k' v') := by
  have hke : (k.1, k.2.1, k.2.2.1, ()) = k := rfl
  unfold exact_Map_Drop_ca4
  dsimp only
  rw [hke, may_map hk, Option.bind_some]
  dsimp only
  cases hmv : mayV k with
  | false => exact .inl ⟨rfl, rfl⟩
  | true =>
    right
    simp only [Bool.not_true, cond_false]
    obtain ⟨j, hj, ⟨w, e, hs⟩ | ⟨e, hu, ha, hp⟩⟩ := find_ok h (n : Int) (most : Int) k
    · right
      have hsm := h.sm
      have hbig := h.big
      have hnm := h.nm
      have huj : us l j = true := by unfold us; rw [hs]
      have hkj : ky l j = k := by unfold ky; rw [hs]
      obtain ⟨q, hq, huq⟩ := h.free
      have hjq : j ≠ q := fun y => by rw [y, huq] at huj; cases huj
      have hlen : (l.set j sZ).length = l.length := List.length_set
      have us1 : ∀ x, us (l.set j sZ) x = if j = x then false else us l x := by
        intro x
        rw [us_set hj]
        split <;> rfl
      have hcnt := cnt_set (l := l) (v := sZ) hj
      have hz : ((sZ : Slot).1 = true) = False := by simp [sZ]
      rw [huj, h.cnt] at hcnt
      simp only [hz, if_false, if_true] at hcnt
      have hn1 : 1 ≤ n := by omega
      have hc1 : (l.set j sZ).countP (·.1) = n - 1 := by omega
      have hne : cc l.length q j ≠ l.length - 1 := fun y => hjq (cc_inj hq hj hq (by rw [y, cc_self hq]))
      have hcl := cc_lt hq hj
      have hn := cc_nx hq hj (by omega)
      have hcls : Cls l.length q j (nx l.length j) (l.set j sZ) := by
        refine ⟨hlen, hq, hj, nx_lt hj, by rw [us1, if_neg hjq]; exact huq, by rw [us1, if_pos rfl], hjq, by omega, ?_, ?_, ?_, ?_⟩
        · intro x hx hux
          rw [us1] at hux
          rw [sl_set hj]
          split
          · rfl
          · rename_i hne; rw [if_neg hne] at hux; exact h.emp x hx hux
        · intro x y hx hy hux huy hkk
          rw [us1] at hux huy
          have jx : j ≠ x := fun q => by rw [if_pos q] at hux; cases hux
          have jy : j ≠ y := fun q => by rw [if_pos q] at huy; cases huy
          rw [if_neg jx] at hux
          rw [if_neg jy] at huy
          rw [ky_set hj, ky_set hj, if_neg jx, if_neg jy] at hkk
          exact h.dis x y hx hy hux huy hkk
        · intro x hx hux
          rw [us1] at hux
          have jx : j ≠ x := fun q => by rw [if_pos q] at hux; cases hux
          rw [if_neg jx] at hux
          rw [ky_set hj, if_neg jx]
          have hh : hm l.length (ky l x) < l.length := Nat.mod_lt _ (by omega)
          refine ⟨conv2 hq hh hx ?_, fun y hy b1 b2 => ?_⟩
          · refine Nat.not_lt.1 fun hd => ?_
            have := h.rch x hx hux q hq hd
            rw [huq] at this; cases this
          · have := h.rch x hx hux y hy (conv3 hq hh hx hy b1 b2)
            by_cases jy : j = y
            · exact .inr jy.symm
            · exact .inl (by rw [us1, if_neg jy]; exact this)
        · intro x hx hux b1 b2
          omega
      obtain ⟨l', e1, e2⟩ := close_walk (by omega) ((n - 1 : Nat) : Int) (most : Int) _ j (nx l.length j) (l.set j sZ) hcls rfl
      refine ⟨trivial, ⟨w, j, hj, hs⟩, hn1, l', ?_, ⟨h.m1, by rw [e2.len]; exact hbig, by rw [e2.len]; exact hsm, by rw [e2.cnt, hc1], by omega, ?_, ?_, ?_⟩, ?_⟩
      · rw [e, Option.bind_some]
        simp only [Bool.not_true, cond_false, ckN hj, Option.bind_some]
        have hst : stI l (j : Int) (false, ((0, 0, 0, ()), 0, ()), ()) = some (l.set j sZ) := stI_nat hj
        rw [hst, Option.map_some, Option.bind_some]
        have hw : IntKind.i64.wrap ((n : Int) - 1) = ((n - 1 : Nat) : Int) := by rw [wrap_i64 (by omega) (by omega)]; omega
        dsimp only
        rw [hw]
        unfold exact_Map_close_deb
        have hnx := next_ok (l := l.set j sZ) (n := ((n - 1 : Nat) : Int)) (m := (most : Int)) (i := j) (by omega) (by omega)
        rw [hlen] at hnx
        dsimp only
        rw [hnx, Option.bind_some]
        dsimp only
        rw [e1]
        rfl
      · rw [e2.len]; exact e2.emp
      · rw [e2.len]; exact e2.dis
      · rw [e2.len]
        intro x hx hux y hy hd
        obtain ⟨b1, b2⟩ := e2.h1 x hx hux
        have hh : hm l.length (ky l' x) < l.length := Nat.mod_lt _ (by omega)
        obtain ⟨c1, c2⟩ := conv1 hq hh hx hy b1 hd
        exact b2 y hy c1 c2
      · intro k' v'
        rw [e2.has]
        constructor
        · rintro ⟨x, hx, hxe⟩
          rw [sl_set hj] at hxe
          split at hxe
          · simp [sZ] at hxe
          · rename_i jx
            rw [hlen] at hx
            refine ⟨fun ek => jx ?_, ⟨x, hx, hxe⟩⟩
            exact h.dis j x hj hx huj (by unfold us; rw [hxe]) (by rw [hkj]; unfold ky; rw [hxe]; exact ek.symm)
        · rintro ⟨hne, x, hx, hxe⟩
          refine ⟨x, by rw [hlen]; exact hx, ?_⟩
          rw [sl_set hj, if_neg, hxe]
          intro y
          subst y
          rw [hs] at hxe
          simp only [Prod.mk.injEq, and_true, true_and] at hxe
          exact hne hxe.1.symm
    · left
      refine ⟨trivial, ha, ?_⟩
      rw [e]; rfl

theorem us_rep (s x : Nat) : us (List.replicate s sZ) x = false := by
  unfold us sl
  rw [List.getD_eq_getElem?_getD, List.getElem?_replicate]
  split <;> rfl

theorem new_bad {most : Int} (h : ¬ (1 ≤ most ∧ most ≤ 256)) : exact_New most = some (.inl (((), ()), ())) := by
  unfold exact_New
  have : (bif decide (most < 1) then true else bif (!decide (most < 1)) then decide (most > 256) else false) = true := by
    by_cases h1 : most < 1
    · rw [decide_eq_true h1]; rfl
    · rw [decide_eq_false h1, decide_eq_true (by omega)]; rfl
  simp only [gsome, this, cond_true]

theorem new_ok {most : Nat} (h1 : 1 ≤ most) (h2 : most ≤ 256) : ∃ l, exact_New (most : Int) = some (.inr (((l, 0, (most : Int), ()), ()), ())) ∧ Ivt most 0 l ∧ ∀ k v, ¬ has l k v := by
  unfold exact_New
  simp only [decide_eq_false (show ¬ (most : Int) < 1 by omega), decide_eq_false (show ¬ (most : Int) > 256 by omega), gsome, Bool.not_false, gtrue, Option.bind_some, cond_true, cond_false]
  have main : ∀ k size : Nat, 2 ≤ size → size ≤ 1024 → 2 * most - size = k → ∃ s, 2 * most ≤ s ∧ s ≤ 1024 ∧ loopR (fun (z : (Int × Int × Unit) × Unit) => exact_New_s0 z.1.1 z.1.2.1) (((most : Int), (size : Int), ()), ()) = some (.inr (((List.replicate s sZ, 0, (most : Int), ()), ()), ())) := by
    intro k
    induction k using Nat.strongRecOn with
    | ind k ih =>
      intro size hs1 hs2 hk
      have hw : IntKind.i64.wrap (2 * (most : Int)) = ((2 * most : Nat) : Int) := by rw [wrap_i64 (by omega) (by omega)]; omega
      by_cases hlt : size < 2 * most
      · obtain ⟨s, e1, e2, e3⟩ := ih (2 * most - 2 * size) (by omega) (2 * size) (by omega) (by omega) rfl
        refine ⟨s, e1, e2, loopR_on ?_ e3⟩
        dsimp only
        unfold exact_New_s0
        rw [hw, decide_eq_true (by omega), cond_true]
        have : IntKind.i64.wrap ((size : Int) * 2) = ((2 * size : Nat) : Int) := by rw [wrap_i64 (by omega) (by omega)]; omega
        rw [this]
      · refine ⟨size, by omega, hs2, loopR_out ?_⟩
        dsimp only
        unfold exact_New_s0
        rw [hw, decide_eq_false (by omega), cond_false]
        have : mkI 40 (size : Int) (size : Int) ((false, ((0, 0, 0, ()), 0, ()), ()) : Slot) = some (List.replicate size sZ) := by
          unfold mkI
          rw [if_pos ⟨by omega, by omega, by omega⟩, Int.toNat_natCast]
          rfl
        rw [this]
        rfl
  obtain ⟨s, e1, e2, e3⟩ := main _ 2 (by omega) (by omega) rfl
  refine ⟨_, e3, ⟨h1, by simp; omega, by simp; omega, ?_, by omega, ?_, ?_, ?_⟩, ?_⟩
  · rw [List.countP_replicate]
    simp [sZ]
  · intro i hi _
    unfold sl
    rw [List.getD_eq_getElem?_getD, List.getElem?_replicate]
    split <;> rfl
  · intro i j _ _ hu
    rw [us_rep] at hu; cases hu
  · intro i _ hu
    rw [us_rep] at hu; cases hu
  · rintro k v ⟨i, _, e⟩
    have := us_rep s i
    unfold us at this
    rw [e] at this; cases this

end Go.L
