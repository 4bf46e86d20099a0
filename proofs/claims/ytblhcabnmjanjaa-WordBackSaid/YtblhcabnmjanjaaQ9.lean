/- The functions of this seat, and the laws as plain Lean. -/
import Derived.Test.YtblhcabnmjanjaaQ8

namespace Go.Proofs.Ytblhcabnmjanjaa
open Go Go.Pv Go.Proofs Go.L

theorem of_ok {w : Nat} (h : w < 340282366920938463463374607431768211456) : law01_of (wp w) = some ((rowB (BitVec.ofNat 128 w), ()), ()) := by
  unfold law01_of
  rw [of_wp h, Option.bind_some]

theorem text_lives : text 16 18446744073709551616 = [49, 48, 48, 48, 48, 48, 48, 48, 48, 48, 48, 48, 48, 48, 48, 48, 48] := by
  have h : D 16 18446744073709551616 = [0, 0, 0, 0, 0, 0, 0, 0, 0, 0, 0, 0, 0, 0, 0, 0, 1] := by
    iterate 17 rw [D_eq (by omega)]
    decide
  unfold text
  rw [h]
  decide

theorem lives_ok : law01_lives = some ((true, ()), ()) := by
  unfold law01_lives
  rw [show ((0, 18446744073709551615, ()) : Int × Int × Unit) = wp 18446744073709551615 from by decide, show ((0, 1, ()) : Int × Int × Unit) = wp 1 from by decide, word_Add_ok (by omega) (by omega), Option.bind_some]
  have e : wp ((18446744073709551615 + 1) % 340282366920938463463374607431768211456) = wp 18446744073709551616 := by decide
  have e2 : wp 18446744073709551616 = (1, 0, ()) := by decide
  have e3 : decide (340282366920938463463374607431768211456 ≤ 18446744073709551615 + 1) = false := by decide
  dsimp only
  rw [e, e3]
  have h1 : (decide ((wp 18446744073709551616).1 = 1) && decide ((wp 18446744073709551616).2.1 = 0)) = true := by decide
  simp only [h1, gsome, Bool.not_false, cond_true, gtrue]
  rw [show (16 : Int) = ((16 : Nat) : Int) from rfl, word_Text_ok (by omega) (by omega) (by omega), text_lives, Option.bind_some]
  simp

theorem word_arg {x : Int × Int × Unit} (h : Wf (.agg (.pair (.int .u64) (.pair (.int .u64) .unit))) x) : ∃ w, w < 340282366920938463463374607431768211456 ∧ x = wp w := wp_of h.1 h.2.1

theorem rowN {a b : Nat} (ha : a < 340282366920938463463374607431768211456) (hb : b < 340282366920938463463374607431768211456) : decide (rowB (BitVec.ofNat 128 a) = rowB (BitVec.ofNat 128 b)) = decide (a = b) := by
  rw [rowB_eq]
  by_cases h : a = b
  · subst h; simp
  · rw [decide_eq_false h, decide_eq_false]
    intro e
    have := congrArg BitVec.toNat e
    rw [BitVec.toNat_ofNat, BitVec.toNat_ofNat] at this
    omega

theorem wp_dec (a b : Nat) : (decide ((wp a).1 = (wp b).1) && decide ((wp a).2.1 = (wp b).2.1)) = decide (a = b) := by
  by_cases h : a = b
  · subst h; simp
  · rw [decide_eq_false h, ← Bool.decide_and]
    refine decide_eq_false fun ⟨h1, h2⟩ => h (wp_inj ?_)
    unfold wp at *
    simp only at h1 h2
    rw [h1, h2]

theorem u64_arg {n : Int} (h : Wf (.int .u64) n) : ∃ d : Nat, d < 18446744073709551616 ∧ n = d := by
  have := u64_of h
  exact ⟨n.toNat, by omega, by omega⟩

theorem adds_ok {a b : Int × Int × Unit} (hA : Wf (.agg (.pair (.int .u64) (.pair (.int .u64) .unit))) a) (hB : Wf (.agg (.pair (.int .u64) (.pair (.int .u64) .unit))) b) : law01_WordAdds a b = some ((true, ()), ()) := by
  obtain ⟨a, ha, rfl⟩ := word_arg hA
  obtain ⟨b, hb, rfl⟩ := word_arg hB
  unfold law01_WordAdds
  have hpa : ((wp a).1, (wp a).2.1, ()) = wp a := rfl
  have hpb : ((wp b).1, (wp b).2.1, ()) = wp b := rfl
  have hback : word_Sub (wp ((a + b) % 340282366920938463463374607431768211456)) (wp b) = some ((wp a, decide ((a + b) % 340282366920938463463374607431768211456 < b), ()), ()) := by
    rw [word_Sub_ok (by omega) hb]
    congr 4
    omega
  have hsum : BitVec.ofNat 128 a + BitVec.ofNat 128 b = BitVec.ofNat 128 ((a + b) % 340282366920938463463374607431768211456) := by
    apply BitVec.eq_of_toNat_eq
    simp only [BitVec.toNat_add, BitVec.toNat_ofNat]
    omega
  have hcarry : BitVec.carry 128 (BitVec.ofNat 128 a) (BitVec.ofNat 128 b) false = decide (340282366920938463463374607431768211456 ≤ a + b) := by
    unfold BitVec.carry
    simp only [BitVec.toNat_ofNat, Bool.toNat_false, Nat.add_zero]
    by_cases h : 340282366920938463463374607431768211456 ≤ a + b
    · rw [decide_eq_true h]; exact decide_eq_true (by omega)
    · rw [decide_eq_false h]; exact decide_eq_false (by omega)
  have hsub : BitVec.ofNat 128 a - BitVec.ofNat 128 b = BitVec.ofNat 128 ((a + (340282366920938463463374607431768211456 - b)) % 340282366920938463463374607431768211456) := by
    apply BitVec.eq_of_toNat_eq
    simp only [BitVec.toNat_sub, BitVec.toNat_ofNat]
    omega
  have hlt : decide ((BitVec.ofNat 128 a).toNat < (BitVec.ofNat 128 b).toNat) = decide (a < b) := by
    rw [BitVec.toNat_ofNat, BitVec.toNat_ofNat, Nat.mod_eq_of_lt (show a < 2 ^ 128 by omega), Nat.mod_eq_of_lt (show b < 2 ^ 128 by omega)]
  have hbor : decide (decide ((a + b) % 340282366920938463463374607431768211456 < b) = decide (340282366920938463463374607431768211456 ≤ a + b)) = true := by
    refine decide_eq_true ?_
    by_cases h : 340282366920938463463374607431768211456 ≤ a + b
    · rw [decide_eq_true h]; exact decide_eq_true (by omega)
    · rw [decide_eq_false h]; exact decide_eq_false (by omega)
  simp only [hpa, hpb, word_Add_ok ha hb, word_Sub_ok ha hb, hback, of_ok ha, of_ok hb, of_ok (show (a + b) % 340282366920938463463374607431768211456 < 340282366920938463463374607431768211456 by omega),
    of_ok (show (a + (340282366920938463463374607431768211456 - b)) % 340282366920938463463374607431768211456 < 340282366920938463463374607431768211456 by omega), sum0, ref01_Minus_ok, Option.bind_some, eqLs_bool, hsum, hcarry, hsub, hlt, decide_true, gtrue, gsome, cond_true, Bool.and_self, hbor, lives_ok]

theorem times_ok {a b : Int × Int × Unit} {d : Int} (hA : Wf (.agg (.pair (.int .u64) (.pair (.int .u64) .unit))) a) (hB : Wf (.agg (.pair (.int .u64) (.pair (.int .u64) .unit))) b) (hD : Wf (.int .u64) d) : law01_WordTimes a b d = some ((true, ()), ()) := by
  obtain ⟨a, ha, rfl⟩ := word_arg hA
  obtain ⟨b, hb, rfl⟩ := word_arg hB
  obtain ⟨d, hd, rfl⟩ := u64_arg hD
  unfold law01_WordTimes
  have hpa : ((wp a).1, (wp a).2.1, ()) = wp a := rfl
  have hpb : ((wp b).1, (wp b).2.1, ()) = wp b := rfl
  have hmul : BitVec.ofNat 128 a * BitVec.ofNat 128 b = BitVec.ofNat 128 (a * b % 340282366920938463463374607431768211456) := by
    apply BitVec.eq_of_toNat_eq
    simp only [BitVec.toNat_mul, BitVec.toNat_ofNat]
    rw [Nat.mod_eq_of_lt (show a < 2 ^ 128 by omega), Nat.mod_eq_of_lt (show b < 2 ^ 128 by omega)]
    omega
  have hm := Nat.mod_lt (a * b) (show 0 < 340282366920938463463374607431768211456 by omega)
  simp only [hpa, hpb, word_Mul_ok ha hb, of_ok hm, of_ok ha, of_ok hb, ref01_Product_ok, Option.bind_some, eqLs_bool, hmul, decide_true, Bool.not_true, cond_false]
  by_cases h0 : d = 0
  · subst h0
    have : word_Div (wp a) ((0 : Nat) : Int) = some (((0, 0, ()), 0, false, ()), ()) := by
      unfold word_Div
      rfl
    rw [this]
    simp only [Option.bind_some, show decide (((0 : Nat) : Int) = 0) = true from rfl, cond_true, decide_true, Bool.and_self, gsome, gtrue, Bool.not_false, lives_ok]
  · have hd0 : 0 < d := by omega
    rw [word_Div_ok ha hd hd0]
    have hq : a / d < 340282366920938463463374607431768211456 := Nat.lt_of_le_of_lt (Nat.div_le_self _ _) ha
    have hr : a % d < d := Nat.mod_lt _ hd0
    have hrd : a % d < 340282366920938463463374607431768211456 := by omega
    have hof : ∀ n : Nat, n < 18446744073709551616 → ref01_Of 0 (n : Int) = some ((rowB (BitVec.ofNat 128 n), ()), ()) := by
      intro n hn
      have := of_wp (w := n) (by omega)
      unfold wp at this
      simp only [Nat.div_eq_of_lt hn, Nat.mod_eq_of_lt hn] at this
      exact this
    have hw : ∀ n : Nat, n < 18446744073709551616 → ((0, (n : Int), ()) : Int × Int × Unit) = wp n := by
      intro n hn
      unfold wp
      rw [Nat.div_eq_of_lt hn, Nat.mod_eq_of_lt hn]
      rfl
    have hle : a / d * d ≤ a := Nat.div_mul_le_self a d
    have hmuld : word_Mul (wp (a / d)) (wp d) = some ((wp (a / d * d), ()), ()) := by
      rw [word_Mul_ok hq (by omega), Nat.mod_eq_of_lt (by omega)]
    have hsum : a / d * d + a % d = a := by rw [Nat.mul_comm]; exact Nat.div_add_mod a d
    have hadd : word_Add (wp (a / d * d)) (wp (a % d)) = some ((wp a, false, ()), ()) := by
      rw [word_Add_ok (by omega) hrd, hsum, Nat.mod_eq_of_lt ha, decide_eq_false (by omega)]
    have hpart := ref01_Part_ok (BitVec.ofNat 128 a) (BitVec.ofNat 128 d) (by rw [BitVec.toNat_ofNat]; omega)
    rw [BitVec.toNat_ofNat, BitVec.toNat_ofNat, Nat.mod_eq_of_lt (show a < 2 ^ 128 by omega), Nat.mod_eq_of_lt (show d < 2 ^ 128 by omega)] at hpart
    simp only [Option.bind_some, decide_eq_false (show ¬ (d : Int) = 0 by omega), cond_false, hof d hd, hof (a % d) (by omega), hw d hd, hw (a % d) (by omega), hpart, hmuld, hadd, of_ok hq, gsome, gtrue, cond_true, decide_true, decide_eq_true (show ((a % d : Nat) : Int) < (d : Int) by omega), Bool.and_self, Bool.not_false, lives_ok]

end Go.Proofs.Ytblhcabnmjanjaa
