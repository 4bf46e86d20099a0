/- The functions that the statements reach as plain Lean, and what they compute. -/
import Derived.Test.YtnaclmcmicckeaaQ13

set_option linter.unusedSimpArgs false
set_option linter.unusedVariables false

namespace Go.L
open Go Go.Pv
set_option maxRecDepth 100000

def dig (c : Int) : Nat := if 48 ≤ c ∧ c ≤ 57 then (c - 48).toNat else if 97 ≤ c ∧ c ≤ 102 then (c - 87).toNat else if 65 ≤ c ∧ c ≤ 70 then (c - 55).toNat else 16

def val (b : Nat) : List Int → Nat → Option Nat
 | [], n => some n
 | c :: l, n => if b ≤ dig c then none else val b l (n * b + dig c)

def read (b : Nat) (l : List Int) (n : Nat) : Nat × Int := match val b l n with
 | none => (0, 4)
 | some m => if 340282366920938463463374607431768211456 ≤ m then (0, 7) else (m, 0)

theorem zeros : ([false, false, false, false, false, false, false, false, false, false, false, false, false, false, false, false, false, false, false, false, false, false, false, false, false, false, false, false, false, false, false, false, false, false, false, false, false, false, false, false, false, false, false, false, false, false, false, false, false, false, false, false, false, false, false, false, false, false, false, false, false, false, false, false, false, false, false, false, false, false, false, false, false, false, false, false, false, false, false, false, false, false, false, false, false, false, false, false, false, false, false, false, false, false, false, false, false, false, false, false, false, false, false, false, false, false, false, false, false, false, false, false, false, false, false, false, false, false, false, false, false, false, false, false, false, false, false, false] : List Bool) = rowB (BitVec.ofNat 128 0) := by decide

def found (c : Int) (k : Nat) : Int := if dig c < k then (dig c : Int) else 99

end Go.L

namespace Go.L
open Go Go.Pv
set_option maxRecDepth 100000

def up (c : Int) : Int := if 97 ≤ c then c - 32 else c

end Go.L

namespace Go.L
open Go Go.Pv
set_option maxRecDepth 100000

theorem vec_Word_ok (w : Int) (x : Nat) : vec_Word (vw w x) = some ((wp x, ()), ()) := rfl
theorem vec_row_ok (w : Int) (x : Nat) : vec_row w (wp x) = some ((vw w x, ()), ()) := rfl

theorem width_ok (w : Int) : vec_width w = some ((decide (1 ≤ w ∧ w ≤ 128), ()), ()) := by
 unfold vec_width
 simp only [gsome]
 by_cases h : 1 ≤ w ∧ w ≤ 128
 ·rw [decide_eq_true (show w ≥ 1 from h.1), decide_eq_true h.2, decide_eq_true h]; rfl
 ·rw [decide_eq_false h]
  by_cases h1 : w ≥ 1
  ·rw [decide_eq_true h1, decide_eq_false (by omega)]; rfl
  ·rw [decide_eq_false h1]; rfl

theorem vec_Cut_ok {w : Int} {x : Nat} (h1 : 1 ≤ w) (h2 : w ≤ 128) (hx : x < 340282366920938463463374607431768211456) : vec_Cut w (wp x) = some ((vw w (x % 2 ^ w.toNat), 0, ()), ()) := by
 unfold vec_Cut
 have hpa : ((wp x).1, (wp x).2.1, ()) = wp x := rfl
 have h128 : 2 ^ min w.toNat 128 - 1 < 340282366920938463463374607431768211456 := by
  have := Nat.pow_le_pow_right (n := 2) (by omega) (Nat.min_le_right w.toNat 128)
  rw [show 2 ^ 128 = 340282366920938463463374607431768211456 from rfl] at this
  omega
 rw [width_ok, Option.bind_some, decide_eq_true (show 1 ≤ w ∧ w ≤ 128 from ⟨h1, h2⟩), Bool.not_true, cond_false, word_Ones_ok, Option.bind_some, hpa]
 dsimp only
 rw [word_And_ok hx h128, Option.bind_some]
 dsimp only
 rw [vec_row_ok, Option.bind_some, Nat.min_eq_left (show w.toNat ≤ 128 by omega), Nat.and_two_pow_sub_one_eq_mod]

theorem may_lt {w : Int} {x : Nat} (h : may w x = true) : x < 2 ^ w.toNat := by
 have hm := of_decide_eq_true h
 exact Nat.lt_of_lt_of_le (bitLen_spec x).1 (Nat.pow_le_pow_right (by omega) (by omega))

theorem halves_wp {y : Nat} (hy : y < 340282366920938463463374607431768211456) : ref01_Halves (rowB (BitVec.ofNat 128 y)) = some (((wp y).1, (wp y).2.1, ()), ()) := by
 have h := ref01_Halves_ok (hi := y / 18446744073709551616) (lo := y % 18446744073709551616) (by omega) (Nat.mod_lt _ (by omega))
 have e : wd (y / 18446744073709551616) (y % 18446744073709551616) = BitVec.ofNat 128 y := by
  unfold wd
  congr 1
  omega
 rw [e] at h
 exact h

theorem ref02_Of_ok {n X : Nat} (hn : n ≤ 128) : ref02_Of (lrow n X.testBit) = some ((vw (n : Int) (X % 2 ^ n), ()), ()) := by
 unfold ref02_Of
 rw [← bld_zero X.testBit]
 refine loop_up (fun i => (((lrow n X.testBit, (i : Int), ()), (0, 0, 0, ()), bld X.testBit i, ()) : ((List Bool) × Int × Unit) × ((Int × Int × Int × Unit) × (List Bool) × Unit))) n ?_ ?_ 0 (by omega)
 ·intro i hi
  dsimp only
  unfold ref02_Of_s0
  simp only [gsome, lrow_len]
  rw [decide_eq_true (show (i : Int) < (n : Int) by omega), decide_eq_true (show (i : Int) < 128 by omega)]
  simp only [cond_true]
  rw [lrow_rd _ hi, Option.bind_some, ck_nat (show i < 128 by omega), bld_st _ (show i < 128 by omega) rfl, Option.bind_some, wi64 (by omega)]
 ·dsimp only
  unfold ref02_Of_s0
  simp only [gsome, lrow_len]
  rw [decide_eq_false (show ¬ (n : Int) < (n : Int) by omega)]
  simp only [cond_false]
  have hb : bld X.testBit n = rowB (BitVec.ofNat 128 (X % 2 ^ n)) := by
   rw [row_w]
   exact row_ext fun i hi => by rw [Nat.testBit_mod_two_pow]
  have hlt : X % 2 ^ n < 340282366920938463463374607431768211456 := Nat.lt_of_lt_of_le (Nat.mod_lt _ (Nat.two_pow_pos n)) (by rw [show 340282366920938463463374607431768211456 = 2 ^ 128 from rfl]; exact Nat.pow_le_pow_right (by omega) hn)
  rw [hb, halves_wp hlt]
  rfl

theorem subL_lrow {α : Type} {n lo k : Nat} (f : Nat → α) (h : lo + k ≤ n) : subL (lrow n f) (lo : Int) ((lo + k : Nat) : Int) = some (lrow k fun j => f (lo + j)) := by
 unfold subL
 rw [lrow_len, if_pos (by omega), Int.toNat_natCast, Int.toNat_natCast]
 congr 1
 apply List.ext_getElem?
 intro j
 rw [List.getElem?_drop, List.getElem?_take]
 by_cases hj : j < k
 ·rw [if_pos (by omega), lrow_get _ (by omega), lrow_get _ hj]
 ·rw [if_neg (by omega), List.getElem?_eq_none (by rw [lrow_len]; omega)]

theorem slices {w : Int} {x : Nat} {hi lo : Int} (hx : x < 340282366920938463463374607431768211456) : ∃ v c, vec_Slice (vw w x) hi lo = some ((v, c, ()), ()) ∧ ref02_Slice (vw w x) hi lo = some ((v, c, ()), ()) := by
 have hpv : ((vw w x).1, (vw w x).2.1, (vw w x).2.2.1, ()) = vw w x := rfl
 unfold vec_Slice ref02_Slice
 rw [hpv, vec_May_ok hx, ref02_May_ok hx, Option.bind_some, Option.bind_some]
 dsimp only
 cases hm : may w x
 ·exact ⟨_, _, rfl, rfl⟩
 ·obtain ⟨h1, h2, h3⟩ := may_of hm
  simp only [Bool.not_true, cond_false, gsome]
  rw [show (vw w x).1 = w from rfl]
  by_cases h : 0 ≤ lo ∧ lo ≤ hi ∧ hi < w
  ·obtain ⟨l, rfl⟩ : ∃ l : Nat, lo = l := ⟨lo.toNat, by omega⟩
   obtain ⟨k, rfl⟩ : ∃ k : Nat, hi = ((l + k : Nat) : Int) := ⟨hi.toNat - l, by omega⟩
   obtain ⟨W, rfl⟩ : ∃ W : Nat, w = W := ⟨w.toNat, by omega⟩
   rw [decide_eq_false (show ¬ (l : Int) < 0 by omega), decide_eq_false (show ¬ (l : Int) > ((l + k : Nat) : Int) by omega)]
   simp only [Bool.not_false, cond_true, cond_false]
   rw [decide_eq_false (show ¬ ((l + k : Nat) : Int) ≥ (W : Int) by omega), cond_false, vec_Word_ok, Option.bind_some, ref02_Bits_ok hx, Option.bind_some]
   dsimp only
   have hmv : moved x (-(l : Int)) = x / 2 ^ l := by
    unfold moved
    by_cases h0 : l = 0
    ·subst h0
     rw [if_pos (by omega), if_pos (by omega), show (-((0 : Nat) : Int)).toNat = 0 from rfl, Nat.pow_zero, Nat.mul_one, Nat.div_one, Nat.mod_eq_of_lt hx]
    ·rw [if_neg (by omega), show (-(-(l : Int))).toNat = l by omega]
   rw [word_Shr_ok hx, Option.bind_some, hmv]
   dsimp only
   have hlt : x / 2 ^ l < 340282366920938463463374607431768211456 := Nat.lt_of_le_of_lt (Nat.div_le_self _ _) hx
   rw [show IntKind.i64.wrap (IntKind.i64.wrap (((l + k : Nat) : Int) - (l : Int)) + 1) = ((k + 1 : Nat) : Int) by rw [wrap_i64 (n := ((l + k : Nat) : Int) - (l : Int)) (by omega) (by omega), wrap_i64 (by omega) (by omega)]; omega,
    show IntKind.i64.wrap (((l + k : Nat) : Int) + 1) = ((l + (k + 1) : Nat) : Int) by rw [wrap_i64 (by omega) (by omega)]; omega,
    vec_Cut_ok (by omega) (by omega) hlt, Option.bind_some, show (min (W : Int) 128).toNat = W by omega, subL_lrow _ (by omega), Option.bind_some, Int.toNat_natCast]
   have he : (lrow (k + 1) fun j => x.testBit (l + j)) = lrow (k + 1) (x / 2 ^ l).testBit := lrow_ext fun j _ => by rw [Nat.testBit_div_two_pow, Nat.add_comm j l]
   rw [he, ref02_Of_ok (by omega)]
   exact ⟨_, _, rfl, rfl⟩
  ·have hc : (bif (bif decide (lo < 0) then true else (bif !decide (lo < 0) then decide (lo > hi) else false)) then true else (bif !(bif decide (lo < 0) then true else (bif !decide (lo < 0) then decide (lo > hi) else false)) then decide (hi ≥ (bif !(bif decide (lo < 0) then true else (bif !decide (lo < 0) then decide (lo > hi) else false)) then w else 0)) else false)) = true := by
    by_cases h4 : lo < 0
    ·rw [decide_eq_true h4]; rfl
    ·rw [decide_eq_false h4]
     by_cases h5 : lo > hi
     ·rw [decide_eq_true h5]; rfl
     ·rw [decide_eq_false h5]
      simp only [Bool.not_false, cond_true, cond_false]
      rw [decide_eq_true (by omega)]
   rw [hc]
   exact ⟨_, _, rfl, rfl⟩

end Go.L

namespace Go.L
open Go Go.Pv
set_option maxRecDepth 100000

theorem mod_succ (x i : Nat) : x % 2 ^ (i + 1) = x % 2 ^ i + (bif x.testBit i then 2 ^ i else 0) := by
 have h2 : x.testBit i = decide (x / 2 ^ i % 2 = 1) := Nat.testBit_eq_decide_div_mod_eq
 rw [h2, Nat.pow_succ, Nat.mod_mul]
 by_cases h : x / 2 ^ i % 2 = 1
 ·rw [decide_eq_true h, h, cond_true, Nat.mul_one]
 ·rw [decide_eq_false h, show x / 2 ^ i % 2 = 0 by omega, cond_false, Nat.mul_zero]

theorem two_s0 {op : List Int} {W x y : Nat} (hW : W ≤ 128) {v : Int × Int × Int × Unit} {r : ((Int × Int × Int × Unit) × Int × Unit) × Unit}
  (h : ref02_Two_s0 op (lrow W x.testBit) (lrow W y.testBit) (decide (x % 2 ^ W < y % 2 ^ W)) (decide (x % 2 ^ W = y % 2 ^ W)) (W : Int) v = some (.inr r)) :
  loopR (fun (z : ((List Int) × (List Bool) × (List Bool) × Bool × Bool × Int × Unit) × ((Int × Int × Int × Unit) × Unit)) => ref02_Two_s0 z.1.1 z.1.2.1 z.1.2.2.1 z.1.2.2.2.1 z.1.2.2.2.2.1 z.1.2.2.2.2.2.1 z.2.1) ((op, lrow W x.testBit, lrow W y.testBit, false, true, 0, ()), v, ()) = some r := by
 have key := loop_up (f := fun (z : ((List Int) × (List Bool) × (List Bool) × Bool × Bool × Int × Unit) × ((Int × Int × Int × Unit) × Unit)) => ref02_Two_s0 z.1.1 z.1.2.1 z.1.2.2.1 z.1.2.2.2.1 z.1.2.2.2.2.1 z.1.2.2.2.2.2.1 z.2.1) (fun i => ((op, lrow W x.testBit, lrow W y.testBit, decide (x % 2 ^ i < y % 2 ^ i), decide (x % 2 ^ i = y % 2 ^ i), (i : Int), ()), v, ())) W (r := r) ?_ h 0 (by omega)
 ·rw [Nat.pow_zero, Nat.mod_one, Nat.mod_one] at key
  exact key
 ·intro i hi
  dsimp only
  unfold ref02_Two_s0
  rw [lrow_len, lrow_len, decide_eq_true (show (i : Int) < (W : Int) by omega), cond_true, ck_nat hi, lrow_rd _ hi, Option.bind_some, ck_nat hi, lrow_rd _ hi, Option.bind_some, mod_succ x i, mod_succ y i, ck_nat hi, lrow_rd _ hi, Option.bind_some, wi64 (by omega)]
  have hx := Nat.mod_lt x (Nat.two_pow_pos i)
  have hy := Nat.mod_lt y (Nat.two_pow_pos i)
  generalize x % 2 ^ i = p at hx ⊢
  generalize y % 2 ^ i = q at hy ⊢
  generalize 2 ^ i = m at hx hy ⊢
  cases x.testBit i <;> cases y.testBit i
  ·rfl
  ·simp only [decide_eq_false (show ¬ false = true by decide), Bool.not_false, cond_true, cond_false]
   rw [decide_eq_true (show p + 0 < q + m by omega), decide_eq_false (show ¬ p + 0 = q + m by omega)]
  ·simp only [decide_eq_false (show ¬ true = false by decide), Bool.not_false, cond_true, cond_false]
   rw [decide_eq_false (show ¬ p + m < q + 0 by omega), decide_eq_false (show ¬ p + m = q + 0 by omega)]
  ·simp only [decide_true, Bool.not_true, cond_true, cond_false]
   rw [show decide (p + m < q + m) = decide (p < q) from decide_eq_decide.2 (by omega), show decide (p + m = q + m) = decide (p = q) from decide_eq_decide.2 (by omega)]

theorem of_one (b : Bool) : ref02_Of [b] = some ((vw 1 (bif b then 1 else 0), ()), ()) := by
 have h := ref02_Of_ok (n := 1) (X := bif b then 1 else 0) (by omega)
 have e : lrow 1 (bif b then 1 else 0 : Nat).testBit = [b] := by cases b <;> rfl
 rw [e] at h
 rw [h]
 cases b <;> rfl

theorem truth_ok (b : Bool) : vec_Truth b = some ((vw 1 (bif b then 1 else 0), ()), ()) := by cases b <;> rfl

def both (w u : Int) (x y : Nat) (r : (Int × Int × Int × Unit) × Int × Unit) : (Int × Int × Int × Unit) × Int × Unit :=
 bif may w x && may u y then (bif decide (w = u) then r else ((0, 0, 0, ()), 9, ())) else ((0, 0, 0, ()), 1, ())

theorem two_and_ok {w u : Int} {x y : Nat} (hx : x < 340282366920938463463374607431768211456) (hy : y < 340282366920938463463374607431768211456) : vec_two_d65 (vw w x) (vw u y) = some ((both w u x y (vw w (x &&& y), 0, ())), ()) := by
 have hpv : ((vw w x).1, (vw w x).2.1, (vw w x).2.2.1, ()) = vw w x := rfl
 have hpu : ((vw u y).1, (vw u y).2.1, (vw u y).2.2.1, ()) = vw u y := rfl
 unfold vec_two_d65 both
 rw [hpv, hpu, vec_May_ok hx, Option.bind_some]
 dsimp only
 cases hm : may w x
 ·simp only [Bool.not_false, Bool.not_true, gsome, gfalse, cond_true, cond_false, Bool.false_and]
 ·simp only [Bool.not_true, Bool.not_false, gsome, gtrue, cond_true, cond_false, Bool.true_and]
  rw [vec_May_ok hy, Option.bind_some]
  dsimp only
  cases hm2 : may u y
  ·rfl
  ·simp only [Bool.not_true, cond_false, cond_true]
   rw [show (vw w x).1 = w from rfl, show (vw u y).1 = u from rfl]
   by_cases h : w = u
   ·subst h
    obtain ⟨h1, h2, h3⟩ := may_of hm
    have hpx : ((wp x).1, (wp x).2.1, ()) = wp x := rfl
    have hpy : ((wp y).1, (wp y).2.1, ()) = wp y := rfl
    rw [decide_eq_true rfl, Bool.not_true, cond_false, cond_true, vec_Word_ok, Option.bind_some, vec_Word_ok, Option.bind_some]
    dsimp only
    have hl : x &&& y < 2 ^ w.toNat := Nat.and_lt_two_pow x (may_lt hm2)
    rw [word_And_ok hx hy, Option.bind_some]
    dsimp only
    rw [vec_Cut_ok h1 h2 (Nat.and_lt_two_pow (n := 128) x hy), Option.bind_some, Nat.mod_eq_of_lt hl]
   ·rw [decide_eq_false h]
    rfl

theorem vec_Less_ok {w u : Int} {x y : Nat} (hx : x < 340282366920938463463374607431768211456) (hy : y < 340282366920938463463374607431768211456) : vec_Less (vw w x) (vw u y) = some ((both w u x y (vw 1 (bif decide (x < y) then 1 else 0), 0, ())), ()) := by
 have hpv : ((vw w x).1, (vw w x).2.1, (vw w x).2.2.1, ()) = vw w x := rfl
 have hpu : ((vw u y).1, (vw u y).2.1, (vw u y).2.2.1, ()) = vw u y := rfl
 have hpx : ((wp x).1, (wp x).2.1, ()) = wp x := rfl
 have hpy : ((wp y).1, (wp y).2.1, ()) = wp y := rfl
 unfold vec_Less vec_told_44b
 rw [hpv, hpu, two_and_ok hx hy, Option.bind_some]
 have hc : decide (cmp x y < 0) = decide (x < y) := decide_eq_decide.2 (by unfold cmp; split <;> (try split) <;> omega)
 unfold both
 cases may w x
 ·rfl
 ·cases may u y
  ·rfl
  ·by_cases h : w = u
   ·subst h
    simp only [Bool.and_self, cond_true, decide_true, Bool.not_true, cond_false, vec_Word_ok, Option.bind_some, hpx, hpy, word_Cmp_ok hx hy, vec_Less_1, hc, truth_ok]
   ·simp only [decide_eq_false h]
    rfl

theorem ref02_less_ok {w u : Int} {x y : Nat} (hx : x < 340282366920938463463374607431768211456) (hy : y < 340282366920938463463374607431768211456) : ref02_Two [108, 101, 115, 115] (vw w x) (vw u y) = some ((both w u x y (vw 1 (bif decide (x < y) then 1 else 0), 0, ())), ()) := by
 have hpv : ((vw w x).1, (vw w x).2.1, (vw w x).2.2.1, ()) = vw w x := rfl
 have hpu : ((vw u y).1, (vw u y).2.1, (vw u y).2.2.1, ()) = vw u y := rfl
 unfold ref02_Two both
 rw [hpv, hpu, ref02_May_ok hx, Option.bind_some]
 dsimp only
 cases hm : may w x
 ·simp only [Bool.not_false, Bool.not_true, gsome, gfalse, cond_true, cond_false, Bool.false_and]
 ·simp only [Bool.not_true, Bool.not_false, gsome, gtrue, cond_true, cond_false, Bool.true_and]
  rw [ref02_May_ok hy, Option.bind_some]
  dsimp only
  cases hm2 : may u y
  ·rfl
  ·simp only [Bool.not_true, cond_false, cond_true]
   rw [show (vw w x).1 = w from rfl, show (vw u y).1 = u from rfl]
   by_cases h : w = u
   ·subst h
    obtain ⟨h1, h2, h3⟩ := may_of hm
    obtain ⟨W, rfl⟩ : ∃ W : Nat, w = W := ⟨w.toNat, by omega⟩
    have hxl := may_lt hm
    have hyl := may_lt hm2
    rw [Int.toNat_natCast] at hxl hyl
    rw [decide_eq_true rfl, Bool.not_true, cond_false, cond_true, ref02_Bits_ok hx, Option.bind_some, ref02_Bits_ok hy, Option.bind_some]
    dsimp only
    rw [show (min (W : Int) 128).toNat = W by omega]
    refine two_s0 (by omega) ?_
    unfold ref02_Two_s0
    rw [lrow_len, decide_eq_false (show ¬ (W : Int) < (W : Int) by omega), cond_false, show decide (([108, 101, 115, 115] : List Int) = [101, 113]) = false by decide, show decide (([108, 101, 115, 115] : List Int) = [108, 101, 115, 115]) = true by decide, cond_false, cond_true, of_one, Nat.mod_eq_of_lt hxl, Nat.mod_eq_of_lt hyl]
    rfl
   ·rw [decide_eq_false h]
    rfl

theorem within {w1 w2 w3 : Int} {x y z : Nat} (hx : x < 340282366920938463463374607431768211456) (hy : y < 340282366920938463463374607431768211456) (hz : z < 340282366920938463463374607431768211456) : ∃ r, vec_Within (vw w1 x) (vw w2 y) (vw w3 z) = some ((r, ()), ()) ∧ ref02_Within (vw w1 x) (vw w2 y) (vw w3 z) = some ((r, ()), ()) := by
 have hpx : ((vw w1 x).1, (vw w1 x).2.1, (vw w1 x).2.2.1, ()) = vw w1 x := rfl
 have hpy : ((vw w2 y).1, (vw w2 y).2.1, (vw w2 y).2.2.1, ()) = vw w2 y := rfl
 have hpz : ((vw w3 z).1, (vw w3 z).2.1, (vw w3 z).2.2.1, ()) = vw w3 z := rfl
 unfold vec_Within ref02_Within
 rw [hpx, hpy, hpz, vec_Less_ok hx hy, vec_Less_ok hz hx, ref02_less_ok hx hy, ref02_less_ok hz hx]
 simp only [Option.bind_some, gsome]
 exact ⟨_, rfl, rfl⟩

end Go.L

namespace Go.L
open Go Go.Pv
set_option maxRecDepth 100000

abbrev Flt := Option (Int × Int × Unit)
abbrev Rdr := ((List Int) × Int × Flt × Unit) × Unit
abbrev rd (b : List Int) (at_ : Int) (f : Flt) : Rdr := ((b, at_, f, ()), ())

end Go.L

namespace Go.L
open Go Go.Pv
set_option maxRecDepth 100000

abbrev Sta := Nat × Flt
structure okB (b : List Int) : Prop where
 u8 : ∀ v ∈ b, inR .u8 v = true
 len : b.length ≤ 100000

end Go.L

namespace Go.L
open Go Go.Pv
set_option maxRecDepth 100000

def neg (op : List Int) : Bool := decide (op = [115, 117, 98]) || decide (op = [115, 117, 98, 115, 97, 116])

end Go.L

namespace Go.L
open Go Go.Pv
set_option maxRecDepth 100000

abbrev S1 := ((List Int) × Int × (List Bool) × Int × (List Bool) × Bool × Int × Unit) × ((Int × Int × Int × Unit) × Unit)
noncomputable abbrev f1 : S1 → Option (S1 ⊕ (((Int × Int × Int × Unit) × Int × Unit) × (Unit))) := fun z => ref02_One_s0 z.1.1 z.1.2.1 z.1.2.2.1 z.1.2.2.2.1 z.1.2.2.2.2.1 z.1.2.2.2.2.2.1 z.1.2.2.2.2.2.2.1 z.2.1

section
variable {n : Int} {W x i : Nat} {out : List Bool} {c : Bool} {v : Int × Int × Int × Unit}

end

end Go.L

namespace Go.L
open Go Go.Pv
set_option maxRecDepth 100000

structure Codec (b : List Int) {α : Type} (R : Sta → α × Sta) (V : α → Prop) (e : α → List Int) : Prop where
 stick : ∀ s f, s.2 = some f → (R s).2 = s
 enc : ∀ x a, V x → a ≤ b.length → e x <+: b.drop a → R (a, none) = (x, a + (e x).length, none)
 cut : ∀ x a, V x → a ≤ b.length → b.drop a <+: e x → (b.drop a).length < (e x).length → ∃ p : Nat, (R (a, none)).2.2 = some (3, (p : Int), ()) ∧ p ≤ b.length
 dec : ∀ a, a ≤ b.length → (R (a, none)).2.2 = none → V (R (a, none)).1 ∧ e (R (a, none)).1 <+: b.drop a ∧ (R (a, none)).2.1 = a + (e (R (a, none)).1).length

theorem pre_drop {l e1 e2 : List Int} (h : e1 ++ e2 <+: l) : e1 <+: l ∧ e2 <+: l.drop e1.length := by
 obtain ⟨t, rfl⟩ := h
 refine ⟨⟨e2 ++ t, by rw [List.append_assoc]⟩, ⟨t, ?_⟩⟩
 rw [List.append_assoc, List.drop_left]

theorem pre_len {l e : List Int} (h : e <+: l) : e.length ≤ l.length := h.length_le

theorem sta_none {s : Sta} (h : s.2 = none) : s = (s.1, none) := by
 obtain ⟨a, f⟩ := s
 obtain rfl : f = none := h
 rfl

theorem Codec.seq {b : List Int} {α β : Type} {R1 : Sta → α × Sta} {R2 : α → Sta → β × Sta} {V1 : α → Prop} {V2 : α → β → Prop} {e1 : α → List Int} {e2 : α → β → List Int}
  (h1 : Codec b R1 V1 e1) (h2 : ∀ x, V1 x → Codec b (R2 x) (V2 x) (e2 x)) (hs : ∀ x s f, s.2 = some f → (R2 x s).2 = s) :
  Codec b (fun s => (((R1 s).1, (R2 (R1 s).1 (R1 s).2).1), (R2 (R1 s).1 (R1 s).2).2)) (fun p => V1 p.1 ∧ V2 p.1 p.2) (fun p => e1 p.1 ++ e2 p.1 p.2) where
 stick s f hf := by
  show (R2 (R1 s).1 (R1 s).2).2 = s
  rw [h1.stick s f hf]
  exact hs _ _ _ hf
 enc x a hV ha hp := by
  obtain ⟨p1, p2⟩ := pre_drop hp
  have hl := pre_len p1
  rw [List.length_drop] at hl
  have r1 := h1.enc x.1 a hV.1 ha p1
  rw [List.drop_drop] at p2
  have r2 := (h2 x.1 hV.1).enc x.2 (a + (e1 x.1).length) hV.2 (by omega) p2
  show (((R1 (a, none)).1, (R2 (R1 (a, none)).1 (R1 (a, none)).2).1), (R2 (R1 (a, none)).1 (R1 (a, none)).2).2) = (x, a + (e1 x.1 ++ e2 x.1 x.2).length, none)
  rw [r1]
  show ((x.1, (R2 x.1 (a + (e1 x.1).length, none)).1), (R2 x.1 (a + (e1 x.1).length, none)).2) = _
  rw [r2, List.length_append, Nat.add_assoc]
 cut x a hV ha hp hl := by
  dsimp only at hp hl ⊢
  by_cases hc : (b.drop a).length < (e1 x.1).length
  ·have hp1 : b.drop a <+: e1 x.1 := List.prefix_of_prefix_length_le hp (List.prefix_append _ _) (by omega)
   obtain ⟨p, hp2, hp3⟩ := h1.cut x.1 a hV.1 ha hp1 hc
   refine ⟨p, ?_, hp3⟩
   rw [hs _ _ _ hp2, hp2]
  ·have hp1 : e1 x.1 <+: b.drop a := List.prefix_of_prefix_length_le (List.prefix_append _ _) hp (by omega)
   have r1 := h1.enc x.1 a hV.1 ha hp1
   have hl2 := pre_len hp1
   rw [List.length_drop] at hl2
   rw [List.length_append] at hl
   have hp4 : b.drop (a + (e1 x.1).length) <+: e2 x.1 x.2 := by
    obtain ⟨t, ht⟩ := hp
    refine ⟨t, ?_⟩
    have := congrArg (List.drop (e1 x.1).length) ht
    rw [List.drop_left, List.drop_append_of_le_length (by rw [List.length_drop]; omega), List.drop_drop] at this
    exact this
   obtain ⟨p, hp2, hp3⟩ := (h2 x.1 hV.1).cut x.2 (a + (e1 x.1).length) hV.2 (by omega) hp4 (by rw [List.length_drop] at hl ⊢; omega)
   refine ⟨p, ?_, hp3⟩
   rw [r1]
   exact hp2
 dec a ha hn := by
  dsimp only at hn ⊢
  have hn1 : (R1 (a, none)).2.2 = none := by
   cases hf : (R1 (a, none)).2.2 with
   | none => rfl
   | some f =>
    rw [hs _ _ _ hf, hf] at hn
    cases hn
  obtain ⟨d1, d2, d3⟩ := h1.dec a ha hn1
  have hl := pre_len d2
  rw [List.length_drop] at hl
  have hst := sta_none hn1
  rw [d3] at hst
  rw [hst] at hn ⊢
  obtain ⟨c1, c2, c3⟩ := (h2 _ d1).dec _ (by omega) hn
  refine ⟨⟨d1, c1⟩, ?_, ?_⟩
  ·obtain ⟨t, ht⟩ := d2
   have := congrArg (List.drop (e1 (R1 (a, none)).1).length) ht
   rw [List.drop_left, List.drop_drop] at this
   rw [← this] at c2
   rw [← ht]
   exact (List.prefix_append_right_inj _).2 c2
  ·rw [c3, List.length_append]
   omega

theorem Codec.map {b : List Int} {α β : Type} {R : Sta → α × Sta} {R' : Sta → β × Sta} {V : α → Prop} {V' : β → Prop} {e : α → List Int} {e' : β → List Int} {f : α → β} (g : β → α)
  (h : Codec b R V e) (hR2 : ∀ s, (R' s).2 = (R s).2) (hR1 : ∀ s, (R s).2.2 = none → (R' s).1 = f (R s).1)
  (h1 : ∀ y, V' y → V (g y) ∧ f (g y) = y ∧ e' y = e (g y)) (h2 : ∀ x, V x → V' (f x) ∧ e' (f x) = e x) : Codec b R' V' e' where
 stick s t ht := by rw [hR2]; exact h.stick s t ht
 enc y a hV ha hp := by
  obtain ⟨k1, k2, k3⟩ := h1 y hV
  rw [k3] at hp ⊢
  have r := h.enc (g y) a k1 ha hp
  have r1 := hR1 (a, none) (by rw [r])
  have r2 := hR2 (a, none)
  rw [r] at r1 r2
  dsimp only at r1 r2
  rw [k2] at r1
  exact Prod.ext r1 r2
 cut y a hV ha hp hl := by
  obtain ⟨k1, k2, k3⟩ := h1 y hV
  rw [k3] at hp hl
  rw [hR2]
  exact h.cut (g y) a k1 ha hp hl
 dec a ha hn := by
  rw [hR2] at hn ⊢
  rw [hR1 _ hn]
  obtain ⟨d1, d2, d3⟩ := h.dec a ha hn
  obtain ⟨k1, k2⟩ := h2 _ d1
  rw [k2]
  exact ⟨k1, d2, d3⟩

abbrev vn (v : Int × Int × Int × Unit) : Nat := v.2.1.toNat * 18446744073709551616 + v.2.2.1.toNat
end Go.L

namespace Go.L
open Go Go.Pv
set_option maxRecDepth 100000

def kcmp (a b : K4) : Int := if a.1 < b.1 then -1 else if b.1 < a.1 then 1 else if vn a = vn b then 0 else if vn a < vn b then -1 else 1

def klt (a b : K4) : Prop := a.1 < b.1 ∨ (a.1 = b.1 ∧ vn a < vn b)

theorem kcmp_neg (a b : K4) : kcmp a b < 0 ↔ klt a b := by
 unfold kcmp klt
 split
 ·exact ⟨fun _ => .inl (by assumption), fun _ => by decide⟩
 split
 ·exact ⟨fun h => absurd h (by decide), fun h => by omega⟩
 split
 ·exact ⟨fun h => absurd h (by decide), fun h => by omega⟩
 split
 ·exact ⟨fun _ => .inr ⟨by omega, by assumption⟩, fun _ => by decide⟩
 ·exact ⟨fun h => absurd h (by decide), fun h => by omega⟩

theorem okV_inj {a b : K4} (ha : okV a) (hb : okV b) (h1 : a.1 = b.1) (h2 : vn a = vn b) : a = b := by
 obtain ⟨a0, a1, a2, _⟩ := a
 obtain ⟨b0, b1, b2, _⟩ := b
 obtain ⟨x1, x2⟩ := ha
 obtain ⟨y1, y2⟩ := hb
 simp [inR, IntKind.min, IntKind.max, IntKind.signed, IntKind.bits] at x1 x2 y1 y2
 unfold vn at h2
 dsimp only at h1 h2
 subst h1
 have e1 : a1 = b1 := by omega
 have e2 : a2 = b2 := by omega
 subst e1 e2
 rfl

theorem compare_ok (x y : Int) : cmp_Compare_int x y = some ((if x < y then -1 else if y < x then 1 else 0, ()), ()) := by
 unfold cmp_Compare_int cmp_isNaN_int
 simp only [decide_true, Bool.not_true, Option.bind_some, cond_false]
 by_cases h1 : x < y
 ·rw [decide_eq_true h1, cond_true, if_pos h1]
 ·rw [decide_eq_false h1, cond_false, if_neg h1]
  by_cases h2 : y < x
  ·rw [if_pos h2, decide_eq_true (show x > y from h2), cond_true]
  ·rw [if_neg h2, decide_eq_false (show ¬ x > y from h2), cond_false]

theorem or_ok (a b : Int) : cmp_Or_int [a, b] = some ((if a = 0 then b else a, ()), ()) := by
 unfold cmp_Or_int
 by_cases ha : a = 0
 ·subst ha
  refine loopR_on (y := ((0, [0, b], 2, 1, ()), ())) rfl ?_
  by_cases hb : b = 0
  ·subst hb
   refine loopR_on (y := ((0, [0, 0], 2, 2, ()), ())) rfl ?_
   exact loopR_out rfl
  ·refine loopR_out ?_
   dsimp only
   unfold cmp_Or_int_s0
   rw [show decide ((1 : Int) < 2) = true from rfl, cond_true, show rdI [0, b] 1 = some b from rfl, Option.bind_some, decide_eq_false hb]
   rfl
 ·refine loopR_out ?_
  dsimp only
  unfold cmp_Or_int_s0
  rw [show decide ((0 : Int) < (([a, b] : List Int).length : Int)) = true from rfl, cond_true, show rdI [a, b] 0 = some a from rfl, Option.bind_some, decide_eq_false ha, if_neg ha]
  rfl

theorem wp_vn {a : K4} (h : okV a) : (a.2.1, a.2.2.1, ()) = wp (vn a) ∧ vn a < 340282366920938463463374607431768211456 := by
 obtain ⟨h1, h2⟩ := okV_vw h
 refine ⟨?_, h1⟩
 have : (vw a.1 (vn a)).2 = wp (vn a) := rfl
 rw [← this]
 have h3 : a = vw a.1 (vn a) := h2
 rw [← h3]

theorem listcmp_ok {a b : It} (ha : okV a.1) (hb : okV b.1) : exact_Map_List_1 a b = some ((kcmp a.1 b.1, ()), ()) := by
 obtain ⟨e1, l1⟩ := wp_vn ha
 obtain ⟨e2, l2⟩ := wp_vn hb
 unfold exact_Map_List_1
 rw [compare_ok, Option.bind_some]
 have w1 : vec_Word (a.1.1, a.1.2.1, a.1.2.2.1, ()) = some ((wp (vn a.1), ()), ()) := by rw [← e1]; rfl
 have w2 : vec_Word (b.1.1, b.1.2.1, b.1.2.2.1, ()) = some ((wp (vn b.1), ()), ()) := by rw [← e2]; rfl
 rw [w1, w2, Option.bind_some, Option.bind_some]
 have hc : word_Cmp (wp (vn a.1)) (wp (vn b.1)) = some ((cmp (vn a.1) (vn b.1), ()), ()) := word_Cmp_ok l1 l2
 rw [hc, Option.bind_some, or_ok, Option.bind_some]
 unfold kcmp cmp
 by_cases h1 : a.1.1 < b.1.1
 ·rw [if_pos h1, if_pos h1]; rfl
 ·rw [if_neg h1, if_neg h1]
  by_cases h2 : b.1.1 < a.1.1
  ·rw [if_pos h2, if_pos h2]; rfl
  ·rw [if_neg h2, if_neg h2, if_pos rfl]

abbrev itT : Ty := .agg (.pair (.agg (.pair (.int .i64) (.pair (.int .u64) (.pair (.int .u64) .unit)))) (.pair (.int .i64) .unit))
noncomputable abbrev itF : CmpF itT := fun x => exact_Map_List_1 x.1 x.2.1

def ile (x y : It) : Bool := !decide (kcmp y.1 x.1 < 0)

theorem cmpV_it {a b : It} (ha : okV a.1) (hb : okV b.1) : cmpV itF a b = kcmp a.1 b.1 := by
 have : itF (a, b, ()) = some ((kcmp a.1 b.1, ()), ()) := listcmp_ok ha hb
 unfold cmpV
 rw [this]

theorem sort_it {xs : List It} (hv : ∀ x ∈ xs, okV x.1) (hd : ∀ x ∈ xs, ∀ y ∈ xs, x.1 = y.1 → x = y) (hl : xs.length ≤ 100000) : sortF itT itF xs = some (xs.mergeSort ile) := by
 have hok : SortOk itT itF xs := by
  refine ⟨fun x y hx hy => ?_, fun x hx => ?_, fun x y z hx hy hz => ?_, fun x y z hx hy hz => ?_, fun x y hx hy => ?_⟩
  ·have : itF (x, y, ()) = some ((kcmp x.1 y.1, ()), ()) := listcmp_ok (hv x hx) (hv y hy)
   rw [this]
   rfl
  ·rw [cmpV_it (hv x hx) (hv x hx), kcmp_neg]
   unfold klt
   omega
  ·rw [cmpV_it (hv x hx) (hv y hy), cmpV_it (hv y hy) (hv z hz), cmpV_it (hv x hx) (hv z hz), kcmp_neg, kcmp_neg, kcmp_neg]
   unfold klt
   omega
  ·rw [cmpV_it (hv x hx) (hv y hy), cmpV_it (hv y hy) (hv z hz), cmpV_it (hv x hx) (hv z hz), kcmp_neg, kcmp_neg, kcmp_neg]
   unfold klt
   omega
  ·rw [cmpV_it (hv x hx) (hv y hy), cmpV_it (hv y hy) (hv x hx), kcmp_neg, kcmp_neg]
   unfold klt
   intro h1 h2
   exact hd x hx y hy (okV_inj (hv x hx) (hv y hy) (by omega) (by omega))
 unfold sortF
 rw [if_pos ⟨hok, by omega⟩]
 have := List.map_mergeSort (r := fun x y => !decide (cmpV itF y x < 0)) (s := ile) (f := id) (l := xs) (fun a ha b hb => by
  unfold ile
  rw [cmpV_it (hv b hb) (hv a ha)]
  rfl)
 rw [List.map_id, List.map_id] at this
 rw [this]

def its (l : List Slot) : List It := (l.filter (·.1)).map (·.2.1)

theorem its_mem {l : List Slot} {x : It} : x ∈ its l ↔ has l x.1 x.2.1 := by
 unfold its has
 simp only [List.mem_map, List.mem_filter]
 constructor
 ·rintro ⟨s, ⟨hs, hu⟩, rfl⟩
  obtain ⟨i, hi, rfl⟩ := List.getElem_of_mem hs
  exact ⟨i, hi, by rw [sl_get hi]; exact slot_eta hu⟩
 ·rintro ⟨i, hi, h⟩
  refine ⟨l[i], ⟨List.getElem_mem hi, ?_⟩, ?_⟩
  ·rw [← sl_get hi, h]
  ·rw [← sl_get hi, h]

theorem its_len {l : List Slot} : (its l).length = l.countP (·.1) := by
 unfold its
 rw [List.length_map, List.countP_eq_length_filter]

theorem its_nd {l : List Slot} {most n : Nat} (h : Ivt most n l) : (its l).Pairwise (fun x y => x.1 ≠ y.1) := by
 unfold its
 rw [List.pairwise_map]
 have key : l.Pairwise fun a b => a.1 = true → b.1 = true → a.2.1.1 ≠ b.2.1.1 := by
  rw [List.pairwise_iff_getElem]
  intro i j hi hj hij h1 h2 he
  have := h.dis i j hi hj (by unfold us; rw [sl_get hi]; exact h1) (by unfold us; rw [sl_get hj]; exact h2) (by unfold ky; rw [sl_get hi, sl_get hj]; exact he)
  omega
 refine List.Pairwise.imp_of_mem ?_ (key.filter _)
 intro a b ha hb hab
 exact hab (List.mem_filter.1 ha).2 (List.mem_filter.1 hb).2

theorem list_ok {l : List Slot} {most n : Nat} (h : Ivt most n l) (N M : Int) (hv : ∀ k v, has l k v → okV k) :
  exact_Map_List_bb9 (l, N, M, ()) = some (((its l).mergeSort ile, ()), (l, N, M, ()), ()) := by
 have hsm := h.sm
 unfold exact_Map_List_bb9
 refine loop_up (f := fun (z : ((List It) × Int × Int × Unit) × (Mp × Unit)) => exact_Map_List_bb9_s0 z.1.1 z.1.2.1 z.1.2.2.1 z.2.1) (fun i => ((its (l.take i), (l.length : Int), (i : Int), ()), (l, N, M, ()), ())) l.length (fun i hi => ?_) ?_ 0 (by omega)
 ·dsimp only
  unfold exact_Map_List_bb9_s0
  have ht : its (l.take (i + 1)) = its (l.take i) ++ (if l[i].1 = true then [l[i].2.1] else []) := by
   unfold its
   rw [List.take_succ_eq_append_getElem hi, List.filter_append, List.map_append]
   congr 1
   by_cases hu : l[i].1 = true
   ·rw [if_pos hu, List.filter_cons_of_pos hu]
    rfl
   ·rw [if_neg hu, List.filter_cons_of_neg hu]
    rfl
  have hlen : (its (l.take i)).length ≤ i := by
   rw [its_len]
   refine Nat.le_trans List.countP_le_length ?_
   rw [List.length_take]
   omega
  rw [dlt hi, cond_true, ckN hi, Option.bind_some, rdI_get hi, Option.bind_some, wi64 (by omega), ht]
  cases hu : l[i].1 with
  | true =>
   rw [cond_true, if_pos rfl, room32 (by simp only [List.length_cons, List.length_nil]; omega), Option.bind_some]
  | false =>
   rw [cond_false, if_neg (by simp), List.append_nil]
 ·dsimp only
  unfold exact_Map_List_bb9_s0
  have hnd := its_nd h
  have hmem : ∀ x ∈ its l, ∀ y ∈ its l, x.1 = y.1 → x = y := fun x hx y hy he => by
   have h1 := its_mem.1 hx
   have h2 := its_mem.1 hy
   rw [← he] at h2
   have := has_one h h1 h2
   obtain ⟨x1, x2, _⟩ := x
   obtain ⟨y1, y2, _⟩ := y
   dsimp only at he this
   rw [he, this]
  have hs := sort_it (xs := its l) (fun x hx => hv _ _ (its_mem.1 hx)) hmem (by
   rw [its_len]
   exact Nat.le_trans List.countP_le_length (by omega))
  rw [dge, cond_false, List.take_length]
  have hs' : sortF (.agg (.pair (.agg (.pair (.int .i64) (.pair (.int .u64) (.pair (.int .u64) .unit)))) (.pair (.int .i64) .unit))) (fun x => exact_Map_List_1 x.1 x.2.1) (its l) = some ((its l).mergeSort ile) := hs
  rw [hs']
  rfl

end Go.L
