/- The functions that the statements reach as plain Lean, and what they compute. -/
import Derived.Test.YtipdifiahmgciaaQ9

namespace Go.L
open Go Go.Pv
set_option maxRecDepth 100000

theorem mod_succ (x i : Nat) : x % 2 ^ (i + 1) = x % 2 ^ i + (bif x.testBit i then 2 ^ i else 0) := by
  have h2 : x.testBit i = decide (x / 2 ^ i % 2 = 1) := Nat.testBit_eq_decide_div_mod_eq
  rw [h2, Nat.pow_succ, Nat.mod_mul]
  by_cases h : x / 2 ^ i % 2 = 1
  · rw [decide_eq_true h, h, cond_true, Nat.mul_one]
  · rw [decide_eq_false h, show x / 2 ^ i % 2 = 0 by omega, cond_false, Nat.mul_zero]

/-- the loop that compares, lowest bits first -/
theorem two_s0 {op : List Int} {W x y : Nat} (hW : W ≤ 128) {v : Int × Int × Int × Unit} {r : ((Int × Int × Int × Unit) × Int × Unit) × Unit}
    (h : ref02_Two_s0 op (lrow W x.testBit) (lrow W y.testBit) (decide (x % 2 ^ W < y % 2 ^ W)) (decide (x % 2 ^ W = y % 2 ^ W)) (W : Int) v = some (.inr r)) :
    loopR (fun (z : ((List Int) × (List Bool) × (List Bool) × Bool × Bool × Int × Unit) × ((Int × Int × Int × Unit) × Unit)) => ref02_Two_s0 z.1.1 z.1.2.1 z.1.2.2.1 z.1.2.2.2.1 z.1.2.2.2.2.1 z.1.2.2.2.2.2.1 z.2.1) ((op, lrow W x.testBit, lrow W y.testBit, false, true, 0, ()), v, ()) = some r := by
  have key := loop_up (f := fun (z : ((List Int) × (List Bool) × (List Bool) × Bool × Bool × Int × Unit) × ((Int × Int × Int × Unit) × Unit)) => ref02_Two_s0 z.1.1 z.1.2.1 z.1.2.2.1 z.1.2.2.2.1 z.1.2.2.2.2.1 z.1.2.2.2.2.2.1 z.2.1) (fun i => ((op, lrow W x.testBit, lrow W y.testBit, decide (x % 2 ^ i < y % 2 ^ i), decide (x % 2 ^ i = y % 2 ^ i), (i : Int), ()), v, ())) W (r := r) ?_ h 0 (by omega)
  · rw [Nat.pow_zero, Nat.mod_one, Nat.mod_one] at key
    exact key
  · intro i hi
    dsimp only
    unfold ref02_Two_s0
    rw [lrow_len, lrow_len, decide_eq_true (show (i : Int) < (W : Int) by omega), cond_true, ck_nat hi, lrow_rd _ hi, Option.bind_some, ck_nat hi, lrow_rd _ hi, Option.bind_some, mod_succ x i, mod_succ y i, ck_nat hi, lrow_rd _ hi, Option.bind_some, wi64 (by omega)]
    have hx := Nat.mod_lt x (Nat.two_pow_pos i)
    have hy := Nat.mod_lt y (Nat.two_pow_pos i)
    generalize x % 2 ^ i = p at hx ⊢
    generalize y % 2 ^ i = q at hy ⊢
    generalize 2 ^ i = m at hx hy ⊢
    cases x.testBit i <;> cases y.testBit i
    · rfl
    · simp only [decide_eq_false (show ¬ false = true by decide), Bool.not_false, cond_true, cond_false]
      rw [decide_eq_true (show p + 0 < q + m by omega), decide_eq_false (show ¬ p + 0 = q + m by omega)]
    · simp only [decide_eq_false (show ¬ true = false by decide), Bool.not_false, cond_true, cond_false]
      rw [decide_eq_false (show ¬ p + m < q + 0 by omega), decide_eq_false (show ¬ p + m = q + 0 by omega)]
    · simp only [decide_true, Bool.not_true, cond_true, cond_false]
      rw [show decide (p + m < q + m) = decide (p < q) from decide_eq_decide.2 (by omega), show decide (p + m = q + m) = decide (p = q) from decide_eq_decide.2 (by omega)]

/-- one bit as a vector -/
theorem of_one (b : Bool) : ref02_Of [b] = some ((vw 1 (bif b then 1 else 0), ()), ()) := by
  have h := ref02_Of_ok (n := 1) (X := bif b then 1 else 0) (by omega)
  have e : lrow 1 (bif b then 1 else 0 : Nat).testBit = [b] := by cases b <;> rfl
  rw [e] at h
  rw [h]
  cases b <;> rfl

theorem truth_ok (b : Bool) : vec_Truth b = some ((vw 1 (bif b then 1 else 0), ()), ()) := by cases b <;> rfl

/-- what two vectors of one width are made to -/
def both (w u : Int) (x y : Nat) (r : (Int × Int × Int × Unit) × Int × Unit) : (Int × Int × Int × Unit) × Int × Unit :=
  bif may w x && may u y then (bif decide (w = u) then r else ((0, 0, 0, ()), 9, ())) else ((0, 0, 0, ()), 1, ())

theorem two_and_ok {w u : Int} {x y : Nat} (hx : x < 340282366920938463463374607431768211456) (hy : y < 340282366920938463463374607431768211456) : vec_two_d65 (vw w x) (vw u y) = some ((both w u x y (vw w (x &&& y), 0, ())), ()) := by
  have hpv : ((vw w x).1, (vw w x).2.1, (vw w x).2.2.1, ()) = vw w x := rfl
  have hpu : ((vw u y).1, (vw u y).2.1, (vw u y).2.2.1, ()) = vw u y := rfl
  unfold vec_two_d65 both
  rw [hpv, hpu, vec_May_ok hx, Option.bind_some]
  dsimp only
  cases hm : may w x
  · simp only [Bool.not_false, Bool.not_true, gsome, gfalse, cond_true, cond_false, Bool.false_and]
  · simp only [Bool.not_true, Bool.not_false, gsome, gtrue, cond_true, cond_false, Bool.true_and]
    rw [vec_May_ok hy, Option.bind_some]
    dsimp only
    cases hm2 : may u y
    · rfl
    · simp only [Bool.not_true, cond_false, cond_true]
      rw [show (vw w x).1 = w from rfl, show (vw u y).1 = u from rfl]
      by_cases h : w = u
      · subst h
        obtain ⟨h1, h2, h3⟩ := may_of hm
        have hpx : ((wp x).1, (wp x).2.1, ()) = wp x := rfl
        have hpy : ((wp y).1, (wp y).2.1, ()) = wp y := rfl
        rw [decide_eq_true rfl, Bool.not_true, cond_false, cond_true, vec_Word_ok, Option.bind_some, vec_Word_ok, Option.bind_some]
        dsimp only
        have hl : x &&& y < 2 ^ w.toNat := Nat.and_lt_two_pow x (may_lt hm2)
        rw [word_And_ok hx hy, Option.bind_some]
        dsimp only
        rw [vec_Cut_ok h1 h2 (Nat.and_lt_two_pow (n := 128) x hy), Option.bind_some, Nat.mod_eq_of_lt hl]
      · rw [decide_eq_false h]
        rfl

theorem vec_Less_ok {w u : Int} {x y : Nat} (hx : x < 340282366920938463463374607431768211456) (hy : y < 340282366920938463463374607431768211456) : vec_Less (vw w x) (vw u y) = some ((both w u x y (vw 1 (bif decide (x < y) then 1 else 0), 0, ())), ()) := by
  have hpv : ((vw w x).1, (vw w x).2.1, (vw w x).2.2.1, ()) = vw w x := rfl
  have hpu : ((vw u y).1, (vw u y).2.1, (vw u y).2.2.1, ()) = vw u y := rfl
  have hpx : ((wp x).1, (wp x).2.1, ()) = wp x := rfl
  have hpy : ((wp y).1, (wp y).2.1, ()) = wp y := rfl
  unfold vec_Less vec_told_44b
  rw [hpv, hpu, two_and_ok hx hy, Option.bind_some]
  have hc : decide (cmp x y < 0) = decide (x < y) := decide_eq_decide.2 (by unfold cmp; split <;> (try split) <;> omega)
  unfold both
  cases may w x
  · rfl
  · cases may u y
    · rfl
    · by_cases h : w = u
      · subst h
        simp only [Bool.and_self, cond_true, decide_true, Bool.not_true, cond_false, vec_Word_ok, Option.bind_some, hpx, hpy, word_Cmp_ok hx hy, vec_Less_1, hc, truth_ok]
      · simp only [decide_eq_false h]
        rfl

theorem ref02_less_ok {w u : Int} {x y : Nat} (hx : x < 340282366920938463463374607431768211456) (hy : y < 340282366920938463463374607431768211456) : ref02_Two [108, 101, 115, 115] (vw w x) (vw u y) = some ((both w u x y (vw 1 (bif decide (x < y) then 1 else 0), 0, ())), ()) := by
  have hpv : ((vw w x).1, (vw w x).2.1, (vw w x).2.2.1, ()) = vw w x := rfl
  have hpu : ((vw u y).1, (vw u y).2.1, (vw u y).2.2.1, ()) = vw u y := rfl
  unfold ref02_Two both
  rw [hpv, hpu, ref02_May_ok hx, Option.bind_some]
  dsimp only
  cases hm : may w x
  · simp only [Bool.not_false, Bool.not_true, gsome, gfalse, cond_true, cond_false, Bool.false_and]
  · simp only [Bool.not_true, Bool.not_false, gsome, gtrue, cond_true, cond_false, Bool.true_and]
    rw [ref02_May_ok hy, Option.bind_some]
    dsimp only
    cases hm2 : may u y
    · rfl
    · simp only [Bool.not_true, cond_false, cond_true]
      rw [show (vw w x).1 = w from rfl, show (vw u y).1 = u from rfl]
      by_cases h : w = u
      · subst h
        obtain ⟨h1, h2, h3⟩ := may_of hm
        obtain ⟨W, rfl⟩ : ∃ W : Nat, w = W := ⟨w.toNat, by omega⟩
        have hxl := may_lt hm
        have hyl := may_lt hm2
        rw [Int.toNat_natCast] at hxl hyl
        rw [decide_eq_true rfl, Bool.not_true, cond_false, cond_true, ref02_Bits_ok hx, Option.bind_some, ref02_Bits_ok hy, Option.bind_some]
        dsimp only
        rw [show (min (W : Int) 128).toNat = W by omega]
        refine two_s0 (by omega) ?_
        unfold ref02_Two_s0
        rw [lrow_len, decide_eq_false (show ¬ (W : Int) < (W : Int) by omega), cond_false, show decide (([108, 101, 115, 115] : List Int) = [101, 113]) = false by decide, show decide (([108, 101, 115, 115] : List Int) = [108, 101, 115, 115]) = true by decide, cond_false, cond_true, of_one, Nat.mod_eq_of_lt hxl, Nat.mod_eq_of_lt hyl]
        rfl
      · rw [decide_eq_false h]
        rfl

theorem within {w1 w2 w3 : Int} {x y z : Nat} (hx : x < 340282366920938463463374607431768211456) (hy : y < 340282366920938463463374607431768211456) (hz : z < 340282366920938463463374607431768211456) : ∃ r, vec_Within (vw w1 x) (vw w2 y) (vw w3 z) = some ((r, ()), ()) ∧ ref02_Within (vw w1 x) (vw w2 y) (vw w3 z) = some ((r, ()), ()) := by
  have hpx : ((vw w1 x).1, (vw w1 x).2.1, (vw w1 x).2.2.1, ()) = vw w1 x := rfl
  have hpy : ((vw w2 y).1, (vw w2 y).2.1, (vw w2 y).2.2.1, ()) = vw w2 y := rfl
  have hpz : ((vw w3 z).1, (vw w3 z).2.1, (vw w3 z).2.2.1, ()) = vw w3 z := rfl
  unfold vec_Within ref02_Within
  rw [hpx, hpy, hpz, vec_Less_ok hx hy, vec_Less_ok hz hx, ref02_less_ok hx hy, ref02_less_ok hz hx]
  simp only [Option.bind_some, gsome]
  exact ⟨_, rfl, rfl⟩

/-! ### met under a mask -/
theorem and_alike {x y m W : Nat} (hm : m < 2 ^ W) : (x &&& m = y &&& m) ↔ ∀ i, i < W → m.testBit i = true → x.testBit i = y.testBit i := by
  constructor
  · intro h i _ hi
    have := congrArg (fun n => n.testBit i) h
    simp only [Nat.testBit_and, hi, Bool.and_true] at this
    exact this
  · intro h
    apply Nat.eq_of_testBit_eq
    intro i
    rw [Nat.testBit_and, Nat.testBit_and]
    cases hb : m.testBit i
    · simp
    · by_cases hi : i < W
      · rw [h i hi hb]
      · rw [Nat.testBit_lt_two_pow (Nat.lt_of_lt_of_le hm (Nat.pow_le_pow_right (by omega) (by omega)))] at hb
        cases hb

theorem meets_loop {W x y m : Nat} (hW : W ≤ 128) (hm : m < 2 ^ W) : loopR (fun (z : ((List Bool) × (List Bool) × (List Bool) × Int × Unit) × (Unit)) => ref02_Meets_s0 z.1.1 z.1.2.1 z.1.2.2.1 z.1.2.2.2.1) ((lrow W x.testBit, lrow W y.testBit, lrow W m.testBit, 0, ()), ()) = some ((decide (x &&& m = y &&& m), ()), ()) := by
  have main : ∀ k i : Nat, W - i = k → i ≤ W → (∀ j, j < i → m.testBit j = true → x.testBit j = y.testBit j) → loopR (fun (z : ((List Bool) × (List Bool) × (List Bool) × Int × Unit) × (Unit)) => ref02_Meets_s0 z.1.1 z.1.2.1 z.1.2.2.1 z.1.2.2.2.1) ((lrow W x.testBit, lrow W y.testBit, lrow W m.testBit, (i : Int), ()), ()) = some ((decide (x &&& m = y &&& m), ()), ()) := by
    intro k
    induction k with
    | zero =>
      intro i hk hi hall
      refine loopR_out ?_
      dsimp only
      unfold ref02_Meets_s0
      rw [lrow_len, decide_eq_false (show ¬ (i : Int) < (W : Int) by omega), cond_false, decide_eq_true ((and_alike hm).2 fun j hj => hall j (by omega))]
    | succ k ih =>
      intro i hk hi hall
      have hil : i < W := by omega
      cases hb : m.testBit i
      · refine loopR_on ?_ (ih (i + 1) (by omega) (by omega) fun j hj hj2 => ?_)
        · dsimp only
          unfold ref02_Meets_s0
          rw [lrow_len, lrow_len, lrow_len, decide_eq_true (show (i : Int) < (W : Int) by omega), cond_true, ck_nat hil, lrow_rd _ hil, Option.bind_some, hb]
          simp only [gsome, gfalse, cond_false, wi64 (show i < 1000000000 by omega)]
        · by_cases e : j = i
          · subst e; rw [hb] at hj2; cases hj2
          · exact hall j (by omega) hj2
      · by_cases he : x.testBit i = y.testBit i
        · refine loopR_on ?_ (ih (i + 1) (by omega) (by omega) fun j hj hj2 => ?_)
          · dsimp only
            unfold ref02_Meets_s0
            rw [lrow_len, lrow_len, lrow_len, decide_eq_true (show (i : Int) < (W : Int) by omega), cond_true, ck_nat hil, lrow_rd _ hil, Option.bind_some, hb]
            simp only [gsome, gtrue, cond_true]
            rw [ck_nat hil, lrow_rd _ hil, Option.bind_some, ck_nat hil, lrow_rd _ hil, Option.bind_some, decide_eq_true he, Bool.not_true, cond_false, wi64 (show i < 1000000000 by omega)]
          · by_cases e : j = i
            · subst e; exact he
            · exact hall j (by omega) hj2
        · refine loopR_out ?_
          dsimp only
          unfold ref02_Meets_s0
          rw [lrow_len, lrow_len, lrow_len, decide_eq_true (show (i : Int) < (W : Int) by omega), cond_true, ck_nat hil, lrow_rd _ hil, Option.bind_some, hb]
          simp only [gsome, gtrue, cond_true]
          rw [ck_nat hil, lrow_rd _ hil, Option.bind_some, ck_nat hil, lrow_rd _ hil, Option.bind_some, decide_eq_false he, Bool.not_false, cond_true, decide_eq_false (fun h => he ((and_alike hm).1 h i hil hb))]
  exact main W 0 (by omega) (by omega) (fun j hj => by omega)

theorem vw_dec {w : Int} {x y : Nat} : (decide ((vw w x).1 = (vw w y).1) && (decide ((vw w x).2.1 = (vw w y).2.1) && decide ((vw w x).2.2.1 = (vw w y).2.2.1))) = decide (x = y) := by
  rw [show (vw w x).1 = (vw w y).1 from rfl, decide_eq_true rfl, Bool.true_and]
  exact wp_eqb x y

theorem vec_And_ok {w u : Int} {x y : Nat} (hx : x < 340282366920938463463374607431768211456) (hy : y < 340282366920938463463374607431768211456) : vec_And (vw w x) (vw u y) = some ((both w u x y (vw w (x &&& y), 0, ())), ()) := by
  have hpv : ((vw w x).1, (vw w x).2.1, (vw w x).2.2.1, ()) = vw w x := rfl
  have hpu : ((vw u y).1, (vw u y).2.1, (vw u y).2.2.1, ()) = vw u y := rfl
  unfold vec_And
  rw [hpv, hpu, two_and_ok hx hy]
  rfl

theorem meets {w1 w2 w3 : Int} {x y z : Nat} (hx : x < 340282366920938463463374607431768211456) (hy : y < 340282366920938463463374607431768211456) (hz : z < 340282366920938463463374607431768211456) : ∃ r, vec_Meets (vw w1 x) (vw w2 y) (vw w3 z) = some ((r, ()), ()) ∧ ref02_Meets (vw w1 x) (vw w2 y) (vw w3 z) = some ((r, ()), ()) := by
  have hpx : ((vw w1 x).1, (vw w1 x).2.1, (vw w1 x).2.2.1, ()) = vw w1 x := rfl
  have hpy : ((vw w2 y).1, (vw w2 y).2.1, (vw w2 y).2.2.1, ()) = vw w2 y := rfl
  have hpz : ((vw w3 z).1, (vw w3 z).2.1, (vw w3 z).2.2.1, ()) = vw w3 z := rfl
  have f1 : (vw w1 x).1 = w1 := rfl
  have f2 : (vw w2 y).1 = w2 := rfl
  have f3 : (vw w3 z).1 = w3 := rfl
  unfold vec_Meets ref02_Meets
  rw [hpx, hpy, hpz, vec_And_ok hx hz, vec_And_ok hy hz, ref02_May_ok hx]
  simp only [Option.bind_some, gsome, f1, f2, f3]
  unfold both
  have d1 : decide ((1 : Int) = 0) = false := by decide
  have d9 : decide ((9 : Int) = 0) = false := by decide
  cases h1 : may w1 x
  · simp only [Bool.false_and, cond_false, cond_true, d1, Bool.not_false, Bool.not_true, gfalse]
    exact ⟨_, rfl, rfl⟩
  · cases h2 : may w2 y
    · simp only [Bool.false_and, Bool.true_and, cond_false, cond_true, d1, Bool.not_false, Bool.not_true, gfalse, gtrue, ref02_May_ok hy, h2, Option.bind_some]
      refine ⟨false, ?_, rfl⟩
      cases decide ((bif may w3 z then bif decide (w1 = w3) then (vw w1 (x &&& z), (0 : Int), ()) else ((0, 0, 0, ()), 9, ()) else ((0, 0, 0, ()), 1, ())).2.1 = 0) <;> rfl
    · cases h3 : may w3 z
      · simp only [Bool.and_false, cond_false, cond_true, d1, Bool.not_false, Bool.not_true, gfalse, gtrue, ref02_May_ok hy, ref02_May_ok hz, h2, h3, Option.bind_some]
        exact ⟨_, rfl, rfl⟩
      · simp only [Bool.and_self, cond_false, cond_true, Bool.not_false, Bool.not_true, gtrue, ref02_May_ok hy, ref02_May_ok hz, h2, h3, Option.bind_some]
        by_cases e13 : w1 = w3
        · subst e13
          by_cases e12 : w1 = w2
          · subst e12
            obtain ⟨k1, k2, k3⟩ := may_of h1
            obtain ⟨W, rfl⟩ : ∃ W : Nat, w1 = W := ⟨w1.toNat, by omega⟩
            have hzl := may_lt h3
            rw [Int.toNat_natCast] at hzl
            simp only [decide_true, cond_true, cond_false, Bool.not_true, Bool.not_false, ref02_Bits_ok hx, ref02_Bits_ok hy, ref02_Bits_ok hz, Option.bind_some, show (min (W : Int) 128).toNat = W by omega, vw_dec]
            rw [meets_loop (by omega) hzl]
            exact ⟨_, rfl, rfl⟩
          · have e21 : ¬ w2 = w1 := fun e => e12 e.symm
            simp only [decide_true, decide_eq_false e12, decide_eq_false e21, cond_true, cond_false, Bool.not_true, Bool.not_false, d9, gfalse]
            exact ⟨_, rfl, rfl⟩
        · by_cases e12 : w1 = w2
          · simp only [decide_eq_false e13, decide_eq_true e12, cond_true, cond_false, Bool.not_true, Bool.not_false, d9, gfalse]
            exact ⟨_, rfl, rfl⟩
          · simp only [decide_eq_false e13, decide_eq_false e12, cond_true, cond_false, Bool.not_true, Bool.not_false, d9, gfalse]
            exact ⟨_, rfl, rfl⟩

end Go.L
