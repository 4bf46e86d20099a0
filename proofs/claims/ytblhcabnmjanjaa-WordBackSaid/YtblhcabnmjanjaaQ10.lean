/- The functions that the statements reach as plain Lean, and what they compute. -/
import Derived.Test.YtblhcabnmjanjaaQ9

namespace Go.L
open Go Go.Pv
set_option maxRecDepth 100000

/-! ### bit by bit -/
theorem u64_bv {z : Nat} (hz : z < 18446744073709551616) {b : BitVec 64} (h : ∀ i, i < 64 → b.getLsbD i = z.testBit i) : IntKind.u64.wrap (b.toNat : Int) = (z : Int) := by
  have : b = BitVec.ofNat 64 z := by
    apply BitVec.eq_of_getLsbD_eq
    intro i hi
    rw [h i hi, BitVec.getLsbD_ofNat]
    simp [hi]
  rw [this, BitVec.toNat_ofNat, Nat.mod_eq_of_lt (show z < 2 ^ 64 by omega), wu64 hz]

theorem and64 {x y : Nat} (hx : x < 18446744073709551616) (hy : y < 18446744073709551616) : bitsI .and .u64 (x : Int) (y : Int) = ((x &&& y : Nat) : Int) := by
  change IntKind.u64.wrap ((BitVec.ofInt 64 (x : Int) &&& BitVec.ofInt 64 (y : Int)).toNat : Int) = _
  rw [BitVec.ofInt_natCast, BitVec.ofInt_natCast]
  exact u64_bv (Nat.and_lt_two_pow (n := 64) x hy) fun i hi => by simp only [BitVec.getLsbD_and, BitVec.getLsbD_or, BitVec.getLsbD_xor, BitVec.getLsbD_ofNat, hi, decide_true, Bool.true_and, Nat.testBit_and, Nat.testBit_or, Nat.testBit_xor]

theorem or64 {x y : Nat} (hx : x < 18446744073709551616) (hy : y < 18446744073709551616) : bitsI .or .u64 (x : Int) (y : Int) = ((x ||| y : Nat) : Int) := by
  change IntKind.u64.wrap ((BitVec.ofInt 64 (x : Int) ||| BitVec.ofInt 64 (y : Int)).toNat : Int) = _
  rw [BitVec.ofInt_natCast, BitVec.ofInt_natCast]
  exact u64_bv (Nat.or_lt_two_pow (n := 64) hx hy) fun i hi => by simp only [BitVec.getLsbD_and, BitVec.getLsbD_or, BitVec.getLsbD_xor, BitVec.getLsbD_ofNat, hi, decide_true, Bool.true_and, Nat.testBit_and, Nat.testBit_or, Nat.testBit_xor]

theorem xor64 {x y : Nat} (hx : x < 18446744073709551616) (hy : y < 18446744073709551616) : bitsI .xor .u64 (x : Int) (y : Int) = ((x ^^^ y : Nat) : Int) := by
  change IntKind.u64.wrap ((BitVec.ofInt 64 (x : Int) ^^^ BitVec.ofInt 64 (y : Int)).toNat : Int) = _
  rw [BitVec.ofInt_natCast, BitVec.ofInt_natCast]
  exact u64_bv (Nat.xor_lt_two_pow (n := 64) hx hy) fun i hi => by simp only [BitVec.getLsbD_and, BitVec.getLsbD_or, BitVec.getLsbD_xor, BitVec.getLsbD_ofNat, hi, decide_true, Bool.true_and, Nat.testBit_and, Nat.testBit_or, Nat.testBit_xor]

/-- a number made of two halves -/
theorem wp_half (f : Bool → Bool → Bool) (hf : f false false = false) (g : Nat → Nat → Nat) (hg : ∀ x y i, (g x y).testBit i = f (x.testBit i) (y.testBit i)) (a b : Nat) :
    g a b / 18446744073709551616 = g (a / 18446744073709551616) (b / 18446744073709551616) ∧ g a b % 18446744073709551616 = g (a % 18446744073709551616) (b % 18446744073709551616) := by
  constructor
  · apply Nat.eq_of_testBit_eq
    intro i
    rw [show 18446744073709551616 = 2 ^ 64 from rfl, Nat.testBit_div_two_pow, hg, hg, Nat.testBit_div_two_pow, Nat.testBit_div_two_pow]
  · apply Nat.eq_of_testBit_eq
    intro i
    rw [show 18446744073709551616 = 2 ^ 64 from rfl, Nat.testBit_mod_two_pow, hg, hg, Nat.testBit_mod_two_pow, Nat.testBit_mod_two_pow]
    by_cases h : i < 64
    · simp [h]
    · simp [h, hf]

theorem word_And_ok {a b : Nat} (ha : a < 340282366920938463463374607431768211456) (hb : b < 340282366920938463463374607431768211456) : word_And (wp a) (wp b) = some ((wp (a &&& b), ()), ()) := by
  obtain ⟨h1, h2⟩ := wp_half and rfl (· &&& ·) (fun x y i => Nat.testBit_and x y i) a b
  unfold word_And wp
  dsimp only
  rw [and64 (by omega) (by omega), and64 (by omega) (by omega)]
  rw [h1, h2]

theorem word_Or_ok {a b : Nat} (ha : a < 340282366920938463463374607431768211456) (hb : b < 340282366920938463463374607431768211456) : word_Or (wp a) (wp b) = some ((wp (a ||| b), ()), ()) := by
  obtain ⟨h1, h2⟩ := wp_half or rfl (· ||| ·) (fun x y i => Nat.testBit_or x y i) a b
  unfold word_Or wp
  dsimp only
  rw [or64 (by omega) (by omega), or64 (by omega) (by omega)]
  rw [h1, h2]

theorem word_Xor_ok {a b : Nat} (ha : a < 340282366920938463463374607431768211456) (hb : b < 340282366920938463463374607431768211456) : word_Xor (wp a) (wp b) = some ((wp (a ^^^ b), ()), ()) := by
  obtain ⟨h1, h2⟩ := wp_half xor rfl (· ^^^ ·) (fun x y i => Nat.testBit_xor x y i) a b
  unfold word_Xor wp
  dsimp only
  rw [xor64 (by omega) (by omega), xor64 (by omega) (by omega)]
  rw [h1, h2]

theorem not64 {x : Nat} (hx : x < 18446744073709551616) : bitsI .xor .u64 IntKind.u64.max (x : Int) = ((18446744073709551615 - x : Nat) : Int) := by
  have hm : IntKind.u64.max = ((18446744073709551615 : Nat) : Int) := by decide
  rw [hm, xor64 (by omega) hx]
  congr 1
  apply Nat.eq_of_testBit_eq
  intro i
  rw [Nat.testBit_xor]
  have h := Nat.testBit_two_pow_sub_succ (n := 64) (x := x) (by omega) i
  rw [show 2 ^ 64 - (x + 1) = 18446744073709551615 - x by omega] at h
  rw [h]
  have h2 := Nat.testBit_two_pow_sub_one 64 i
  rw [show 2 ^ 64 - 1 = 18446744073709551615 from rfl] at h2
  rw [h2]
  by_cases hi : i < 64
  · simp [hi]
  · simp [hi]
    exact Nat.testBit_lt_two_pow (Nat.lt_of_lt_of_le hx (by rw [show 18446744073709551616 = 2 ^ 64 from rfl]; exact Nat.pow_le_pow_right (by omega) (by omega)))

theorem word_Not_ok {a : Nat} (ha : a < 340282366920938463463374607431768211456) : word_Not (wp a) = some ((wp (340282366920938463463374607431768211455 - a), ()), ()) := by
  unfold word_Not wp
  dsimp only
  rw [not64 (by omega), not64 (by omega)]
  refine congrArg some (Prod.ext (Prod.ext (Prod.ext ?_ (Prod.ext ?_ rfl)) rfl) rfl)
  · dsimp only; omega
  · dsimp only; omega

/-! ### moved -/
theorem shl64 {n k : Nat} (hk : k ≤ 64) : shlI .u64 (n : Int) (k : Int) = some (((n * 2 ^ k % 18446744073709551616 : Nat) : Int)) := by rw [shl_ok, Nat.min_eq_left hk]
theorem shr64 {n k : Nat} (hk : k ≤ 64) : shrI .u64 (n : Int) (k : Int) = some (((n / 2 ^ k : Nat) : Int)) := by rw [shr_ok, Nat.min_eq_left hk]

theorem pow_split {n : Nat} (h : n ≤ 64) : 2 ^ n * 2 ^ (64 - n) = 18446744073709551616 := by rw [← Nat.pow_add, show n + (64 - n) = 64 by omega]

theorem mod_div_pow (lo n : Nat) (h : n ≤ 64) (hlo : lo < 18446744073709551616) : lo * 2 ^ n / 18446744073709551616 = lo / 2 ^ (64 - n) := by
  rw [← pow_split h, Nat.mul_comm (2 ^ n), Nat.mul_div_mul_right _ _ (Nat.two_pow_pos n)]

theorem shl_g_ok {F G : (Int × Int × Unit) → Int → Option (((Int × Int × Unit) × Unit) × (Unit))} {a n : Nat} (ha : a < 340282366920938463463374607431768211456) : word_Shl_g F G (wp a) (n : Int) = some ((wp (if n < 128 then a * 2 ^ n % 340282366920938463463374607431768211456 else 0), ()), ()) := by
  unfold word_Shl_g
  have hpa : ((wp a).1, (wp a).2.1, ()) = wp a := rfl
  simp only [gsome, decide_eq_false (show ¬ (n : Int) ≤ -128 by omega), Bool.not_false, cond_true, cond_false, decide_eq_false (show ¬ (n : Int) < 0 by omega)]
  by_cases h128 : n < 128
  · rw [decide_eq_false (show ¬ (n : Int) ≥ 128 by omega), cond_false, if_pos h128]
    by_cases h0 : n = 0
    · subst h0
      rw [decide_eq_true (show ((0 : Nat) : Int) = 0 from rfl), cond_true, Nat.pow_zero, Nat.mul_one, Nat.mod_eq_of_lt ha]
    · rw [decide_eq_false (show ¬ (n : Int) = 0 by omega), cond_false]
      by_cases h64 : 64 ≤ n
      · rw [decide_eq_true (show (n : Int) ≥ 64 by omega), cond_true, show IntKind.i64.wrap ((n : Int) - 64) = ((n - 64 : Nat) : Int) by rw [wrap_i64 (by omega) (by omega)]; omega]
        unfold wp
        dsimp only
        rw [shl64 (by omega), Option.bind_some]
        have e : a * 2 ^ n = a * 2 ^ (n - 64) * 18446744073709551616 := by
          rw [show 18446744073709551616 = 2 ^ 64 from rfl, Nat.mul_assoc, ← Nat.pow_add, Nat.sub_add_cancel h64]
        rw [e]
        have e2 : a % 18446744073709551616 * 2 ^ (n - 64) % 18446744073709551616 = a * 2 ^ (n - 64) % 18446744073709551616 := Nat.mod_mul_mod a (2 ^ (n - 64)) 18446744073709551616
        rw [e2]
        generalize a * 2 ^ (n - 64) = m
        refine congrArg some (Prod.ext (Prod.ext (Prod.ext ?_ (Prod.ext ?_ rfl)) rfl) rfl)
        · dsimp only; first | done | omega
        · dsimp only; first | done | omega
      · rw [decide_eq_false (show ¬ (n : Int) ≥ 64 by omega), cond_false, show IntKind.i64.wrap (64 - (n : Int)) = ((64 - n : Nat) : Int) by rw [wrap_i64 (by omega) (by omega)]; omega]
        unfold wp
        dsimp only
        rw [shl64 (by omega), Option.bind_some, shr64 (by omega), Option.bind_some, shl64 (by omega), Option.bind_some]
        have hlo : a % 18446744073709551616 < 18446744073709551616 := Nat.mod_lt _ (by omega)
        have hs : a * 2 ^ n = a / 18446744073709551616 * 2 ^ n * 18446744073709551616 + a % 18446744073709551616 * 2 ^ n := by
          have : a = a / 18446744073709551616 * 18446744073709551616 + a % 18446744073709551616 := by omega
          rw [show a * 2 ^ n = (a / 18446744073709551616 * 18446744073709551616 + a % 18446744073709551616) * 2 ^ n by rw [← this], Nat.add_mul, Nat.mul_right_comm]
        have hd := mod_div_pow (a % 18446744073709551616) n (by omega) hlo
        have hlt : a % 18446744073709551616 / 2 ^ (64 - n) < 2 ^ n := by
          refine (Nat.div_lt_iff_lt_mul (Nat.two_pow_pos _)).2 ?_
          rw [pow_split (by omega)]; exact hlo
        have hmz : a / 18446744073709551616 * 2 ^ n % 18446744073709551616 % 2 ^ n = 0 := by
          rw [← pow_split (show n ≤ 64 by omega), Nat.mod_mul_right_mod, Nat.mul_mod_left]
        have hle : a / 18446744073709551616 * 2 ^ n % 18446744073709551616 + a % 18446744073709551616 / 2 ^ (64 - n) < 18446744073709551616 := by
          have h1 : a / 18446744073709551616 * 2 ^ n % 18446744073709551616 = 2 ^ n * (a / 18446744073709551616 % 2 ^ (64 - n)) := by
            rw [← pow_split (show n ≤ 64 by omega), Nat.mul_comm (a / (2 ^ n * 2 ^ (64 - n))) (2 ^ n), Nat.mul_mod_mul_left]
          have h2 : a / 18446744073709551616 % 2 ^ (64 - n) + 1 ≤ 2 ^ (64 - n) := Nat.mod_lt _ (Nat.two_pow_pos _)
          have h3 := Nat.mul_le_mul_left (2 ^ n) h2
          rw [pow_split (by omega), Nat.mul_add, Nat.mul_one, ← h1] at h3
          omega
        rw [or_add hmz hlt hle, hs, ← hd]
        generalize a / 18446744073709551616 * 2 ^ n = p at *
        generalize a % 18446744073709551616 * 2 ^ n = q at *
        clear hmz hlt hs hpa
        refine congrArg some (Prod.ext (Prod.ext (Prod.ext ?_ (Prod.ext ?_ rfl)) rfl) rfl)
        · dsimp only; omega
        · dsimp only; omega
  · rw [decide_eq_true (show (n : Int) ≥ 128 by omega), cond_true, if_neg h128]
    rfl

theorem shr_g_ok {F G : (Int × Int × Unit) → Int → Option (((Int × Int × Unit) × Unit) × (Unit))} {a n : Nat} (ha : a < 340282366920938463463374607431768211456) : word_Shr_g F G (wp a) (n : Int) = some ((wp (a / 2 ^ n), ()), ()) := by
  unfold word_Shr_g
  simp only [gsome, decide_eq_false (show ¬ (n : Int) ≤ -128 by omega), Bool.not_false, cond_true, cond_false, decide_eq_false (show ¬ (n : Int) < 0 by omega)]
  by_cases h128 : n < 128
  · rw [decide_eq_false (show ¬ (n : Int) ≥ 128 by omega), cond_false]
    by_cases h0 : n = 0
    · subst h0
      rw [decide_eq_true (show ((0 : Nat) : Int) = 0 from rfl), cond_true, Nat.pow_zero, Nat.div_one]
    · rw [decide_eq_false (show ¬ (n : Int) = 0 by omega), cond_false]
      by_cases h64 : 64 ≤ n
      · rw [decide_eq_true (show (n : Int) ≥ 64 by omega), cond_true, show IntKind.i64.wrap ((n : Int) - 64) = ((n - 64 : Nat) : Int) by rw [wrap_i64 (by omega) (by omega)]; omega]
        unfold wp
        dsimp only
        rw [shr64 (by omega), Option.bind_some]
        have e : a / 2 ^ n = a / 18446744073709551616 / 2 ^ (n - 64) := by
          rw [show 18446744073709551616 = 2 ^ 64 from rfl, Nat.div_div_eq_div_mul, ← Nat.pow_add, show 64 + (n - 64) = n by omega]
        have hlt : a / 2 ^ n < 18446744073709551616 := by rw [e]; exact Nat.lt_of_le_of_lt (Nat.div_le_self _ _) (by omega)
        rw [← e]
        generalize a / 2 ^ n = m at *
        refine congrArg some (Prod.ext (Prod.ext (Prod.ext ?_ (Prod.ext ?_ rfl)) rfl) rfl)
        · dsimp only; first | done | omega
        · dsimp only; first | done | omega
      · rw [decide_eq_false (show ¬ (n : Int) ≥ 64 by omega), cond_false, show IntKind.i64.wrap (64 - (n : Int)) = ((64 - n : Nat) : Int) by rw [wrap_i64 (by omega) (by omega)]; omega]
        unfold wp
        dsimp only
        rw [shr64 (by omega), Option.bind_some, shr64 (by omega), Option.bind_some, shl64 (by omega), Option.bind_some]
        have hp := Nat.two_pow_pos n
        have hq := Nat.two_pow_pos (64 - n)
        have hsp := pow_split (show n ≤ 64 by omega)
        have hl1 : a % 18446744073709551616 / 2 ^ n < 2 ^ (64 - n) := (Nat.div_lt_iff_lt_mul hp).2 (by rw [Nat.mul_comm, hsp]; exact Nat.mod_lt _ (by omega))
        have hm : a / 18446744073709551616 * 2 ^ (64 - n) % 18446744073709551616 = 2 ^ (64 - n) * (a / 18446744073709551616 % 2 ^ n) := by
          rw [← hsp, Nat.mul_comm (2 ^ n), Nat.mul_comm (a / (2 ^ (64 - n) * 2 ^ n)), Nat.mul_mod_mul_left]
        have hsum : 2 ^ (64 - n) * (a / 18446744073709551616 % 2 ^ n) + a % 18446744073709551616 / 2 ^ n < 18446744073709551616 := by
          have h2 : a / 18446744073709551616 % 2 ^ n + 1 ≤ 2 ^ n := Nat.mod_lt _ hp
          have h3 := Nat.mul_le_mul_left (2 ^ (64 - n)) h2
          rw [Nat.mul_comm (2 ^ (64 - n)) (2 ^ n), hsp, Nat.mul_add, Nat.mul_one] at h3
          omega
        have hor : bitsI .or .u64 ((a % 18446744073709551616 / 2 ^ n : Nat) : Int) ((a / 18446744073709551616 * 2 ^ (64 - n) % 18446744073709551616 : Nat) : Int) = ((2 ^ (64 - n) * (a / 18446744073709551616 % 2 ^ n) + a % 18446744073709551616 / 2 ^ n : Nat) : Int) := by
          rw [hm]
          have := or_add (a := 2 ^ (64 - n) * (a / 18446744073709551616 % 2 ^ n)) (b := a % 18446744073709551616 / 2 ^ n) (s := 64 - n) (Nat.mul_mod_right _ _) hl1 hsum
          rw [← this, or64 (by omega) (by omega), or64 (by omega) (by omega), Nat.or_comm]
        rw [hor]
        have hval : a / 2 ^ n = a / 18446744073709551616 / 2 ^ n * 18446744073709551616 + (2 ^ (64 - n) * (a / 18446744073709551616 % 2 ^ n) + a % 18446744073709551616 / 2 ^ n) := by
          have h1 : a = 18446744073709551616 * (a / 18446744073709551616) + a % 18446744073709551616 := by omega
          have h2 := Nat.div_add_mod (a / 18446744073709551616) (2 ^ n)
          have h3 := Nat.div_add_mod (a % 18446744073709551616) (2 ^ n)
          have hr := Nat.mod_lt (a % 18446744073709551616) hp
          refine ((Nat.div_mod_unique (a := a) (c := a % 18446744073709551616 % 2 ^ n) hp).2 ⟨?_, hr⟩).1
          generalize a / 18446744073709551616 = A at *
          generalize a % 18446744073709551616 = B at *
          rw [Nat.mul_add, Nat.mul_add, ← Nat.mul_assoc (2 ^ n) (2 ^ (64 - n)), hsp, ← Nat.mul_assoc]
          generalize 2 ^ n * (A / 2 ^ n) = p at *
          generalize 2 ^ n * (B / 2 ^ n) = q at *
          omega
        rw [hval]
        generalize 2 ^ (64 - n) * (a / 18446744073709551616 % 2 ^ n) + a % 18446744073709551616 / 2 ^ n = q at *
        generalize a / 18446744073709551616 / 2 ^ n = p at *
        clear hor hm hval hl1 hsp
        refine congrArg some (Prod.ext (Prod.ext (Prod.ext ?_ (Prod.ext ?_ rfl)) rfl) rfl)
        · dsimp only; omega
        · dsimp only; omega
  · rw [decide_eq_true (show (n : Int) ≥ 128 by omega), cond_true, Nat.div_eq_of_lt (Nat.lt_of_lt_of_le ha (by rw [show 340282366920938463463374607431768211456 = 2 ^ 128 from rfl]; exact Nat.pow_le_pow_right (by omega) (by omega)))]
    rfl

/-- moved by n places: up, or down -/
def moved (a : Nat) (n : Int) : Nat := if 0 ≤ n then (if n < 128 then a * 2 ^ n.toNat % 340282366920938463463374607431768211456 else 0) else a / 2 ^ (-n).toNat

end Go.L

namespace Go.L
open Go Go.Pv
set_option maxRecDepth 100000

theorem div_big {a n : Nat} (ha : a < 340282366920938463463374607431768211456) (h : 128 ≤ n) : a / 2 ^ n = 0 :=
  Nat.div_eq_of_lt (Nat.lt_of_lt_of_le ha (by rw [show 340282366920938463463374607431768211456 = 2 ^ 128 from rfl]; exact Nat.pow_le_pow_right (by omega) h))

theorem moved_lt {a : Nat} (ha : a < 340282366920938463463374607431768211456) (n : Int) : moved a n < 340282366920938463463374607431768211456 := by
  unfold moved
  split
  · split
    · exact Nat.mod_lt _ (by omega)
    · omega
  · exact Nat.lt_of_le_of_lt (Nat.div_le_self _ _) ha

theorem shl_g_neg {F G : (Int × Int × Unit) → Int → Option (((Int × Int × Unit) × Unit) × (Unit))} {a : Nat} {n : Int} (ha : a < 340282366920938463463374607431768211456) (hn : n < 0) (hG : ∀ k : Nat, G (wp a) (k : Int) = some ((wp (a / 2 ^ k), ()), ())) : word_Shl_g F G (wp a) n = some ((wp (a / 2 ^ (-n).toNat), ()), ()) := by
  have hpa : ((wp a).1, (wp a).2.1, ()) = wp a := rfl
  unfold word_Shl_g
  simp only [gsome]
  by_cases h : n ≤ -128
  · rw [decide_eq_true h, cond_true, cond_true, div_big ha (by omega)]
    rfl
  · rw [decide_eq_false h, Bool.not_false, cond_true, cond_false, decide_eq_false (show ¬ n ≥ 128 by omega), cond_false, decide_eq_true hn, cond_true, hpa, show IntKind.i64.wrap (0 - n) = (((-n).toNat : Nat) : Int) by rw [wrap_i64 (by omega) (by omega)]; omega, hG]
    rfl

theorem shr_g_neg {F G : (Int × Int × Unit) → Int → Option (((Int × Int × Unit) × Unit) × (Unit))} {a : Nat} {n : Int} (hn : n < 0) (hF : ∀ k : Nat, F (wp a) (k : Int) = some ((wp (if k < 128 then a * 2 ^ k % 340282366920938463463374607431768211456 else 0), ()), ())) : word_Shr_g F G (wp a) n = some ((wp (if -n < 128 then a * 2 ^ (-n).toNat % 340282366920938463463374607431768211456 else 0), ()), ()) := by
  have hpa : ((wp a).1, (wp a).2.1, ()) = wp a := rfl
  unfold word_Shr_g
  simp only [gsome]
  by_cases h : n ≤ -128
  · rw [decide_eq_true h, cond_true, cond_true, if_neg (by omega)]
    rfl
  · rw [decide_eq_false h, Bool.not_false, cond_true, cond_false, decide_eq_false (show ¬ n ≥ 128 by omega), cond_false, decide_eq_true hn, cond_true, hpa, show IntKind.i64.wrap (0 - n) = (((-n).toNat : Nat) : Int) by rw [wrap_i64 (by omega) (by omega)]; omega, hF, if_pos (show (-n).toNat < 128 by omega), if_pos (show -n < 128 by omega)]
    rfl

theorem word_Shl_ok {a : Nat} {n : Int} (ha : a < 340282366920938463463374607431768211456) : word_Shl (wp a) n = some ((wp (moved a n), ()), ()) := by
  show word_Shl_g (word_Shr_lv 2).1 (word_Shr_g (word_Shr_lv 1).1 (word_Shr_lv 1).2) (wp a) n = _
  unfold moved
  by_cases h : 0 ≤ n
  · obtain ⟨k, rfl⟩ : ∃ k : Nat, n = k := ⟨n.toNat, by omega⟩
    rw [shl_g_ok ha, if_pos h, Int.toNat_natCast]
    by_cases h2 : k < 128
    · rw [if_pos h2, if_pos (by omega)]
    · rw [if_neg h2, if_neg (by omega)]
  · rw [if_neg h, shl_g_neg ha (by omega) fun k => shr_g_ok ha]

theorem word_Shr_ok {a : Nat} {n : Int} (ha : a < 340282366920938463463374607431768211456) : word_Shr (wp a) n = some ((wp (moved a (-n)), ()), ()) := by
  show word_Shr_g (word_Shl_g (word_Shr_lv 1).1 (word_Shr_lv 1).2) (word_Shr_lv 2).2 (wp a) n = _
  unfold moved
  by_cases h : n < 0
  · rw [shr_g_neg h fun k => shl_g_ok ha, if_pos (show 0 ≤ -n by omega)]
  · obtain ⟨k, rfl⟩ : ∃ k : Nat, n = k := ⟨n.toNat, by omega⟩
    rw [shr_g_ok ha]
    by_cases h2 : k = 0
    · subst h2
      rw [if_pos (by omega), if_pos (by omega), show (-((0 : Nat) : Int)).toNat = 0 by omega, Nat.pow_zero, Nat.mul_one, Nat.div_one, Nat.mod_eq_of_lt ha]
    · rw [if_neg (by omega), show (-(-(k : Int))).toNat = k by omega]

/-- what the reference's move makes, as the same number -/
theorem moved_bv {a : Nat} {n : Int} (ha : a < 340282366920938463463374607431768211456) : (if 0 ≤ n ∧ n < 128 then BitVec.ofNat 128 a <<< n.toNat else if -128 < n ∧ n < 0 then BitVec.ofNat 128 a >>> (-n).toNat else 0) = BitVec.ofNat 128 (moved a n) := by
  unfold moved
  apply BitVec.eq_of_toNat_eq
  by_cases h : 0 ≤ n
  · by_cases h2 : n < 128
    · rw [if_pos ⟨h, h2⟩, if_pos h, if_pos h2, BitVec.toNat_shiftLeft, BitVec.toNat_ofNat, BitVec.toNat_ofNat, Nat.shiftLeft_eq, Nat.mod_mul_mod]
      exact (Nat.mod_mod _ _).symm
    · rw [if_neg (by omega), if_neg (by omega), if_pos h, if_neg h2]
      rfl
  · rw [if_neg (by omega), if_neg h]
    by_cases h2 : -128 < n
    · rw [if_pos (by omega), BitVec.toNat_ushiftRight, BitVec.toNat_ofNat, BitVec.toNat_ofNat, Nat.shiftRight_eq_div_pow, Nat.mod_eq_of_lt (show a < 2 ^ 128 from ha), Nat.mod_eq_of_lt (show a / 2 ^ (-n).toNat < 2 ^ 128 from Nat.lt_of_le_of_lt (Nat.div_le_self _ _) ha)]
    · rw [if_neg (by omega), div_big ha (by omega)]
      rfl

theorem wp0 : ((0, 0, ()) : Int × Int × Unit) = wp 0 := rfl
theorem wp1 : ((0, 1, ()) : Int × Int × Unit) = wp 1 := rfl

theorem word_Ones_ok {n : Int} : word_Ones n = some ((wp (2 ^ min n.toNat 128 - 1), ()), ()) := by
  unfold word_Ones
  by_cases h : n ≤ 0
  · rw [decide_eq_true h, cond_true, show n.toNat = 0 by omega]
    rfl
  · rw [decide_eq_false h, cond_false]
    by_cases h2 : n ≥ 128
    · rw [decide_eq_true h2, cond_true, wp0, word_Not_ok (by omega), Nat.min_eq_right (by omega)]
      rfl
    · rw [decide_eq_false h2, cond_false, wp1, word_Shl_ok (by omega)]
      dsimp only [Option.bind_some]
      have hm : moved 1 n = 2 ^ n.toNat := by
        unfold moved
        rw [if_pos (by omega), if_pos (by omega), Nat.one_mul]
        refine Nat.mod_eq_of_lt ?_
        rw [show 340282366920938463463374607431768211456 = 2 ^ 128 from rfl]
        exact Nat.pow_lt_pow_right (by omega) (by omega)
      rw [word_Sub_ok (moved_lt (by omega) n) (by omega), hm, Nat.min_eq_left (by omega)]
      dsimp only [Option.bind_some]
      have hp := Nat.two_pow_pos n.toNat
      have hl : 2 ^ n.toNat < 340282366920938463463374607431768211456 := by
        rw [← hm]; exact moved_lt (by omega) n
      rw [show (2 ^ n.toNat + (340282366920938463463374607431768211456 - 1)) % 340282366920938463463374607431768211456 = 2 ^ n.toNat - 1 by omega]

theorem and1 {x : Nat} (hx : x < 18446744073709551616) : bitsI .and .u64 (x : Int) 1 = ((x % 2 : Nat) : Int) := by
  have h := and64 (y := 1) hx (by omega)
  rw [Nat.and_one_is_mod] at h
  exact h

theorem word_Bit_ok {a : Nat} (ha : a < 340282366920938463463374607431768211456) (i : Int) : word_Bit (wp a) i = some ((decide (0 ≤ i ∧ i < 128) && a.testBit i.toNat, ()), ()) := by
  have hpa : ((wp a).1, (wp a).2.1, ()) = wp a := rfl
  unfold word_Bit
  simp only [gsome]
  by_cases h : 0 ≤ i ∧ i < 128
  · rw [decide_eq_true (show i ≥ 0 from h.1), decide_eq_true h.2, decide_eq_true h]
    simp only [cond_true, gtrue, hpa, Option.bind_some]
    rw [word_Shr_ok ha, Option.bind_some]
    have hm : moved a (-i) = a / 2 ^ i.toNat := by
      unfold moved
      by_cases h0 : i = 0
      · subst h0
        rw [if_pos (by omega), if_pos (by omega), show (-(0 : Int)).toNat = 0 from rfl, show (0 : Int).toNat = 0 from rfl, Nat.pow_zero, Nat.mul_one, Nat.div_one, Nat.mod_eq_of_lt ha]
      · rw [if_neg (by omega), show (-(-i)).toNat = i.toNat by omega]
    rw [hm]
    generalize hq : a / 2 ^ i.toNat = q
    have hqb : a.testBit i.toNat = decide (q % 2 = 1) := by rw [← hq]; exact Nat.testBit_eq_decide_div_mod_eq
    show some ((decide (bitsI .and .u64 ((q % 18446744073709551616 : Nat) : Int) 1 = 1), ()), ()) = _
    rw [and1 (Nat.mod_lt _ (by omega)), Bool.true_and, hqb]
    congr 3
    exact decide_eq_decide.2 (by omega)
  · rw [decide_eq_false h, Bool.false_and]
    have : (bif decide (i ≥ 0) then (bif decide (i ≥ 0) then decide (i < 128) else false) else false) = false := by
      by_cases h1 : i ≥ 0
      · rw [decide_eq_true h1, decide_eq_false (by omega)]; rfl
      · rw [decide_eq_false h1]; rfl
    simp only [this, gfalse, cond_false]

theorem wp_eqb (a b : Nat) : (decide ((wp a).1 = (wp b).1) && decide ((wp a).2.1 = (wp b).2.1)) = decide (a = b) := by
  rw [← Bool.decide_and]
  refine decide_eq_decide.2 ⟨fun h => wp_inj (Prod.ext h.1 (Prod.ext h.2 rfl)), fun h => by rw [h]; exact ⟨rfl, rfl⟩⟩

/-- below, equal, above -/
def cmp (a b : Nat) : Int := if a = b then 0 else if a < b then -1 else 1

theorem word_Cmp_ok {a b : Nat} (ha : a < 340282366920938463463374607431768211456) (hb : b < 340282366920938463463374607431768211456) : word_Cmp (wp a) (wp b) = some ((cmp a b, ()), ()) := by
  have hpa : ((wp a).1, (wp a).2.1, ()) = wp a := rfl
  have hpb : ((wp b).1, (wp b).2.1, ()) = wp b := rfl
  unfold word_Cmp cmp
  rw [hpa, hpb, word_Sub_ok ha hb, Option.bind_some, wp_eqb]
  dsimp only
  by_cases h : a = b
  · rw [decide_eq_true h, cond_true, if_pos h]
  · rw [decide_eq_false h, cond_false, if_neg h]
    by_cases h2 : a < b
    · rw [decide_eq_true h2, cond_true, if_pos h2]
    · rw [decide_eq_false h2, cond_false, if_neg h2]

theorem word_Len_ok {a : Nat} (ha : a < 340282366920938463463374607431768211456) : word_Len (wp a) = some (((bitLen a : Int), ()), ()) := by
  unfold word_Len
  by_cases h : 18446744073709551616 ≤ a
  · rw [decide_eq_true (show (wp a).1 > 0 by show (((a / 18446744073709551616 : Nat)) : Int) > 0; omega), cond_true]
    show (bits_Len64 ((a / 18446744073709551616 : Nat) : Int)).bind _ = _
    rw [bits_Len64_ok (by omega), Option.bind_some]
    dsimp only
    have h1 := bitLen_shift (n := a) (k := 64) (by rw [show 2 ^ 64 = 18446744073709551616 from rfl]; exact h)
    rw [show 2 ^ 64 = 18446744073709551616 from rfl] at h1
    have h2 : bitLen (a / 18446744073709551616) ≤ 64 := bitLen_le (by rw [show 2 ^ 64 = 18446744073709551616 from rfl]; omega)
    rw [h1, show (64 : Int) + (bitLen (a / 18446744073709551616) : Int) = ((64 : Nat) : Int) + (bitLen (a / 18446744073709551616) : Int) from rfl, wadd (by omega)]
  · rw [decide_eq_false (show ¬ (wp a).1 > 0 by show ¬ (((a / 18446744073709551616 : Nat)) : Int) > 0; omega), cond_false]
    show (bits_Len64 ((a % 18446744073709551616 : Nat) : Int)).bind _ = _
    rw [Nat.mod_eq_of_lt (by omega), bits_Len64_ok (by omega), Option.bind_some]

end Go.L
