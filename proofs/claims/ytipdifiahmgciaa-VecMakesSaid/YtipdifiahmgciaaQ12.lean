/- The functions that the statements reach as plain Lean, and what they compute. -/
import Derived.Test.YtipdifiahmgciaaQ11

namespace Go.L
open Go Go.Pv
set_option maxRecDepth 100000

/-- at least two of three -/
def maj (p q c : Bool) : Bool := (p && q) || (p && c) || (q && c)

/-- one bit's result -/
def bitOf (op : List Int) (p q c : Bool) : Bool :=
  bif decide (op = [97, 110, 100]) then p && q else bif decide (op = [111, 114]) then p || q else bif decide (op = [120, 111, 114]) then p ^^ q else (p ^^ q) ^^ c

def neg (op : List Int) : Bool := decide (op = [115, 117, 98]) || decide (op = [115, 117, 98, 115, 97, 116])

theorem s2_step {op : List Int} (hop : op = [97, 100, 100] ∨ op = [97, 100, 100, 115, 97, 116] ∨ op = [115, 117, 98] ∨ op = [115, 117, 98, 115, 97, 116] ∨ op = [97, 110, 100] ∨ op = [111, 114] ∨ op = [120, 111, 114]) {W x y i : Nat} {out : List Bool} {less c : Bool} {v : Int × Int × Int × Unit} (hi : i < W) (hW : W ≤ 128) (ho : out.length = i) :
    ref02_Two_s2 op (lrow W x.testBit) (lrow W y.testBit) less out c (i : Int) v = some (.inl ((op, lrow W x.testBit, lrow W y.testBit, less, out ++ [bitOf op (x.testBit i) (y.testBit i ^^ neg op) c], maj (x.testBit i) (y.testBit i ^^ neg op) c, ((i + 1 : Nat) : Int), ()), v, ())) := by
  have hr : ∀ b : Bool, roomI 1 out [b] = some (out ++ [b]) := fun b => roomI_ok (by simp only [List.length_cons, List.length_nil]; omega)
  unfold ref02_Two_s2
  rw [lrow_len, lrow_len, decide_eq_true (show (i : Int) < (W : Int) by omega), cond_true, ck_nat hi, lrow_rd _ hi, Option.bind_some, ck_nat hi, lrow_rd _ hi, Option.bind_some, wi64 (show i < 1000000000 by omega)]
  generalize x.testBit i = p
  generalize y.testBit i = q
  rcases hop with rfl | rfl | rfl | rfl | rfl | rfl | rfl <;> cases p <;> cases q <;> cases c <;> exact (congrArg (fun o => Option.bind o _) (hr _)).trans rfl

/-! ### the sum -/
def car (x y c i : Nat) : Bool := decide (2 ^ i ≤ x % 2 ^ i + y % 2 ^ i + c)

theorem car_succ {x y c : Nat} (hc : c ≤ 1) (i : Nat) : car x y c (i + 1) = maj (x.testBit i) (y.testBit i) (car x y c i) := by
  unfold car
  rw [mod_succ x i, mod_succ y i, Nat.pow_succ]
  have hx := Nat.mod_lt x (Nat.two_pow_pos i)
  have hy := Nat.mod_lt y (Nat.two_pow_pos i)
  generalize x % 2 ^ i = p at hx ⊢
  generalize y % 2 ^ i = q at hy ⊢
  generalize 2 ^ i = m at hx hy ⊢
  unfold maj
  cases x.testBit i <;> cases y.testBit i <;> simp only [cond_true, cond_false, Bool.and_false, Bool.false_and, Bool.and_true, Bool.true_and, Bool.or_false, Bool.false_or, Bool.true_or, Bool.or_self, Bool.and_self]
  · exact decide_eq_false (by omega)
  · exact decide_eq_decide.2 (by omega)
  · exact decide_eq_decide.2 (by omega)
  · exact decide_eq_true (by omega)

theorem sum_bit {x y c : Nat} (hc : c ≤ 1) (i : Nat) : (x + y + c).testBit i = ((x.testBit i ^^ y.testBit i) ^^ car x y c i) := by
  have e1 : x.testBit i = decide (x / 2 ^ i % 2 = 1) := Nat.testBit_eq_decide_div_mod_eq
  have e2 : y.testBit i = decide (y / 2 ^ i % 2 = 1) := Nat.testBit_eq_decide_div_mod_eq
  have e3 : (x + y + c).testBit i = decide ((x + y + c) / 2 ^ i % 2 = 1) := Nat.testBit_eq_decide_div_mod_eq
  have hs : (x + y + c) / 2 ^ i = x / 2 ^ i + y / 2 ^ i + (x % 2 ^ i + y % 2 ^ i + c) / 2 ^ i := by
    have h1 := Nat.div_add_mod x (2 ^ i)
    have h2 := Nat.div_add_mod y (2 ^ i)
    have : x + y + c = 2 ^ i * (x / 2 ^ i + y / 2 ^ i) + (x % 2 ^ i + y % 2 ^ i + c) := by rw [Nat.mul_add]; omega
    rw [this, Nat.mul_add_div (Nat.two_pow_pos i)]
  have hx := Nat.mod_lt x (Nat.two_pow_pos i)
  have hy := Nat.mod_lt y (Nat.two_pow_pos i)
  have hd : (x % 2 ^ i + y % 2 ^ i + c) / 2 ^ i = if 2 ^ i ≤ x % 2 ^ i + y % 2 ^ i + c then 1 else 0 := by
    split
    · rename_i h
      refine (Nat.div_eq_iff (Nat.two_pow_pos i)).2 ?_
      omega
    · exact Nat.div_eq_of_lt (by omega)
  rw [e3, hs, hd, e1, e2]
  unfold car
  generalize x / 2 ^ i = a
  generalize y / 2 ^ i = b
  by_cases h : 2 ^ i ≤ x % 2 ^ i + y % 2 ^ i + c
  · rw [if_pos h, decide_eq_true h]
    by_cases ha : a % 2 = 1 <;> by_cases hb : b % 2 = 1 <;> simp only [ha, hb, decide_true, decide_false, Bool.xor_true, Bool.true_xor, Bool.xor_false, Bool.false_xor, Bool.not_true, Bool.not_false] <;> first | exact decide_eq_true (by omega) | exact decide_eq_false (by omega)
  · rw [if_neg h, decide_eq_false h]
    by_cases ha : a % 2 = 1 <;> by_cases hb : b % 2 = 1 <;> simp only [ha, hb, decide_true, decide_false, Bool.xor_true, Bool.true_xor, Bool.xor_false, Bool.false_xor, Bool.not_true, Bool.not_false] <;> first | exact decide_eq_true (by omega) | exact decide_eq_false (by omega)

/-- the second number, as it is added -/
def opd (op : List Int) (W y : Nat) : Nat := bif neg op then 2 ^ W - 1 - y else y
def c0 (op : List Int) : Nat := bif neg op then 1 else 0

theorem opd_bit {op : List Int} {W y i : Nat} (hy : y < 2 ^ W) (hi : i < W) : (opd op W y).testBit i = (y.testBit i ^^ neg op) := by
  unfold opd
  cases neg op
  · simp
  · have h := Nat.testBit_two_pow_sub_succ (n := W) (x := y) hy i
    rw [show 2 ^ W - (y + 1) = 2 ^ W - 1 - y by omega, decide_eq_true hi, Bool.true_and] at h
    rw [cond_true, h, Bool.xor_true]

/-- what comes out before it is bounded -/
def outOf (op : List Int) (W x y : Nat) (j : Nat) : Bool := bitOf op (x.testBit j) ((opd op W y).testBit j) (car x (opd op W y) (c0 op) j)

theorem c0_le (op : List Int) : c0 op ≤ 1 := by unfold c0; cases neg op <;> decide

theorem s2_loop {op : List Int} (hop : op = [97, 100, 100] ∨ op = [97, 100, 100, 115, 97, 116] ∨ op = [115, 117, 98] ∨ op = [115, 117, 98, 115, 97, 116] ∨ op = [97, 110, 100] ∨ op = [111, 114] ∨ op = [120, 111, 114]) {W x y : Nat} {less : Bool} {v : Int × Int × Int × Unit} (hW : W ≤ 128) (hy : y < 2 ^ W) {r : ((Int × Int × Int × Unit) × Int × Unit) × Unit}
    (h : loopR (fun (z : ((List Int) × Bool × (List Bool) × Bool × Int × Unit) × ((Int × Int × Int × Unit) × Unit)) => ref02_Two_s4 z.1.1 z.1.2.1 z.1.2.2.1 z.1.2.2.2.1 z.1.2.2.2.2.1 z.2.1) ((op, less, lrow W (outOf op W x y), car x (opd op W y) (c0 op) W, 0, ()), v, ()) = some r) :
    loopR (fun (z : ((List Int) × (List Bool) × (List Bool) × Bool × (List Bool) × Bool × Int × Unit) × ((Int × Int × Int × Unit) × Unit)) => ref02_Two_s2 z.1.1 z.1.2.1 z.1.2.2.1 z.1.2.2.2.1 z.1.2.2.2.2.1 z.1.2.2.2.2.2.1 z.1.2.2.2.2.2.2.1 z.2.1) ((op, lrow W x.testBit, lrow W y.testBit, less, [], neg op, 0, ()), v, ()) = some r := by
  have key := loop_up (f := fun (z : ((List Int) × (List Bool) × (List Bool) × Bool × (List Bool) × Bool × Int × Unit) × ((Int × Int × Int × Unit) × Unit)) => ref02_Two_s2 z.1.1 z.1.2.1 z.1.2.2.1 z.1.2.2.2.1 z.1.2.2.2.2.1 z.1.2.2.2.2.2.1 z.1.2.2.2.2.2.2.1 z.2.1) (fun i => ((op, lrow W x.testBit, lrow W y.testBit, less, lrow i (outOf op W x y), car x (opd op W y) (c0 op) i, (i : Int), ()), v, ())) W (r := r) ?_ ?_ 0 (by omega)
  · have e : car x (opd op W y) (c0 op) 0 = neg op := by
      unfold car c0
      rw [Nat.pow_zero, Nat.mod_one, Nat.mod_one]
      cases neg op <;> rfl
    rw [lrow_zero, e] at key
    exact key
  · intro i hi
    dsimp only
    rw [s2_step hop hi hW (lrow_len _ _), car_succ (c0_le op) i, lrow_succ, ← opd_bit hy hi]
    rfl
  · dsimp only
    unfold ref02_Two_s2
    rw [lrow_len, decide_eq_false (show ¬ (W : Int) < (W : Int) by omega), cond_false, show ((v.1, v.2.1, v.2.2.1, ()) : Int × Int × Int × Unit) = v from rfl, h]
    rfl

theorem s4_stay {op : List Int} {W : Nat} {F : Nat} {less c : Bool} {v : Int × Int × Int × Unit} (hW : W ≤ 128) (h1 : (bif decide (op = [97, 100, 100, 115, 97, 116]) then c else false) = false) (h2 : (bif decide (op = [115, 117, 98, 115, 97, 116]) then less else false) = false) :
    loopR (fun (z : ((List Int) × Bool × (List Bool) × Bool × Int × Unit) × ((Int × Int × Int × Unit) × Unit)) => ref02_Two_s4 z.1.1 z.1.2.1 z.1.2.2.1 z.1.2.2.2.1 z.1.2.2.2.2.1 z.2.1) ((op, less, lrow W F.testBit, c, 0, ()), v, ()) = some ((vw (W : Int) (F % 2 ^ W), 0, ()), ()) := by
  refine loop_up (fun i => (((op, less, lrow W F.testBit, c, (i : Int), ()), v, ()) : ((List Int) × Bool × (List Bool) × Bool × Int × Unit) × ((Int × Int × Int × Unit) × Unit))) W ?_ ?_ 0 (by omega)
  · intro i hi
    dsimp only
    unfold ref02_Two_s4
    simp only [gsome, h1, h2, cond_false, lrow_len, decide_eq_true (show (i : Int) < (W : Int) by omega), cond_true, wi64 (show i < 1000000000 by omega)]
  · dsimp only
    unfold ref02_Two_s4
    rw [lrow_len, decide_eq_false (show ¬ (W : Int) < (W : Int) by omega), cond_false, ref02_Of_ok hW]
    rfl

theorem ones_bits (W : Nat) : lrow W (fun _ => true) = lrow W (2 ^ W - 1).testBit := lrow_ext fun i hi => by rw [Nat.testBit_two_pow_sub_one, decide_eq_true hi]

theorem s4_up {W : Nat} {f : Nat → Bool} {less : Bool} {v : Int × Int × Int × Unit} (hW : W ≤ 128) :
    loopR (fun (z : ((List Int) × Bool × (List Bool) × Bool × Int × Unit) × ((Int × Int × Int × Unit) × Unit)) => ref02_Two_s4 z.1.1 z.1.2.1 z.1.2.2.1 z.1.2.2.2.1 z.1.2.2.2.2.1 z.2.1) (([97, 100, 100, 115, 97, 116], less, lrow W f, true, 0, ()), v, ()) = some ((vw (W : Int) ((2 ^ W - 1) % 2 ^ W), 0, ()), ()) := by
  have key := loop_up (f := fun (z : ((List Int) × Bool × (List Bool) × Bool × Int × Unit) × ((Int × Int × Int × Unit) × Unit)) => ref02_Two_s4 z.1.1 z.1.2.1 z.1.2.2.1 z.1.2.2.2.1 z.1.2.2.2.2.1 z.2.1) (fun i => ((([97, 100, 100, 115, 97, 116] : List Int), less, lrow W (fun j => if j < i then true else f j), true, (i : Int), ()), v, ())) W (r := ((vw (W : Int) ((2 ^ W - 1) % 2 ^ W), 0, ()), ())) ?_ ?_ 0 (by omega)
  · have e : lrow W (fun j => if j < 0 then true else f j) = lrow W f := lrow_ext fun j _ => by rw [if_neg (by omega)]
    rw [e] at key
    exact key
  · intro i hi
    dsimp only
    unfold ref02_Two_s4
    have e : (lrow W fun j => bif Nat.beq j i then true else if j < i then true else f j) = lrow W fun j => if j < i + 1 then true else f j := lrow_ext fun j _ => by
      by_cases h : j = i
      · subst h; rw [Nat.beq_refl, cond_true, if_pos (by omega)]
      · rw [nbeq h, cond_false]
        by_cases h2 : j < i
        · rw [if_pos h2, if_pos (by omega)]
        · rw [if_neg h2, if_neg (by omega)]
    simp only [gsome, show decide (([97, 100, 100, 115, 97, 116] : List Int) = [97, 100, 100, 115, 97, 116]) = true by decide, show decide (([97, 100, 100, 115, 97, 116] : List Int) = [115, 117, 98, 115, 97, 116]) = false by decide, cond_true, cond_false, lrow_len, decide_eq_true (show (i : Int) < (W : Int) by omega), wi64 (show i < 1000000000 by omega)]
    rw [ck_nat hi, lrow_st _ hi, Option.bind_some, e]
    rfl
  · dsimp only
    unfold ref02_Two_s4
    have e : lrow W (fun j => if j < W then true else f j) = lrow W (2 ^ W - 1).testBit := by
      rw [← ones_bits]
      exact lrow_ext fun j hj => by rw [if_pos hj]
    rw [lrow_len, decide_eq_false (show ¬ (W : Int) < (W : Int) by omega), cond_false, e, ref02_Of_ok hW]
    rfl

theorem s4_down {W : Nat} {f : Nat → Bool} {c : Bool} {v : Int × Int × Int × Unit} (hW : W ≤ 128) :
    loopR (fun (z : ((List Int) × Bool × (List Bool) × Bool × Int × Unit) × ((Int × Int × Int × Unit) × Unit)) => ref02_Two_s4 z.1.1 z.1.2.1 z.1.2.2.1 z.1.2.2.2.1 z.1.2.2.2.2.1 z.2.1) (([115, 117, 98, 115, 97, 116], true, lrow W f, c, 0, ()), v, ()) = some ((vw (W : Int) (0 % 2 ^ W), 0, ()), ()) := by
  have key := loop_up (f := fun (z : ((List Int) × Bool × (List Bool) × Bool × Int × Unit) × ((Int × Int × Int × Unit) × Unit)) => ref02_Two_s4 z.1.1 z.1.2.1 z.1.2.2.1 z.1.2.2.2.1 z.1.2.2.2.2.1 z.2.1) (fun i => ((([115, 117, 98, 115, 97, 116] : List Int), true, lrow W (fun j => if j < i then false else f j), c, (i : Int), ()), v, ())) W (r := ((vw (W : Int) (0 % 2 ^ W), 0, ()), ())) ?_ ?_ 0 (by omega)
  · have e : lrow W (fun j => if j < 0 then false else f j) = lrow W f := lrow_ext fun j _ => by rw [if_neg (by omega)]
    rw [e] at key
    exact key
  · intro i hi
    dsimp only
    unfold ref02_Two_s4
    have e : (lrow W fun j => bif Nat.beq j i then false else if j < i then false else f j) = lrow W fun j => if j < i + 1 then false else f j := lrow_ext fun j _ => by
      by_cases h : j = i
      · subst h; rw [Nat.beq_refl, cond_true, if_pos (by omega)]
      · rw [nbeq h, cond_false]
        by_cases h2 : j < i
        · rw [if_pos h2, if_pos (by omega)]
        · rw [if_neg h2, if_neg (by omega)]
    simp only [gsome, show decide (([115, 117, 98, 115, 97, 116] : List Int) = [97, 100, 100, 115, 97, 116]) = false by decide, show decide (([115, 117, 98, 115, 97, 116] : List Int) = [115, 117, 98, 115, 97, 116]) = true by decide, cond_true, cond_false, lrow_len, decide_eq_true (show (i : Int) < (W : Int) by omega), wi64 (show i < 1000000000 by omega)]
    rw [ck_nat hi, lrow_st _ hi, Option.bind_some, e]
    rfl
  · dsimp only
    unfold ref02_Two_s4
    have e : lrow W (fun j => if j < W then false else f j) = lrow W (0 : Nat).testBit := lrow_ext fun j hj => by rw [if_pos hj, Nat.zero_testBit]
    rw [lrow_len, decide_eq_false (show ¬ (W : Int) < (W : Int) by omega), cond_false, e, ref02_Of_ok hW]
    rfl

end Go.L

namespace Go.L
open Go Go.Pv
set_option maxRecDepth 100000

/-- what two numbers of W bits are made to -/
def num (op : List Int) (W x y : Nat) : Nat :=
  bif decide (op = [97, 110, 100]) then x &&& y else bif decide (op = [111, 114]) then x ||| y else bif decide (op = [120, 111, 114]) then x ^^^ y else x + opd op W y + c0 op

theorem out_num {op : List Int} (hop : op = [97, 100, 100] ∨ op = [97, 100, 100, 115, 97, 116] ∨ op = [115, 117, 98] ∨ op = [115, 117, 98, 115, 97, 116] ∨ op = [97, 110, 100] ∨ op = [111, 114] ∨ op = [120, 111, 114]) {W x y : Nat} (j : Nat) : outOf op W x y j = (num op W x y).testBit j := by
  have hs : ∀ op, (x + opd op W y + c0 op).testBit j = ((x.testBit j ^^ (opd op W y).testBit j) ^^ car x (opd op W y) (c0 op) j) := fun op => sum_bit (c0_le op) j
  rcases hop with rfl | rfl | rfl | rfl | rfl | rfl | rfl
  · exact (hs _).symm
  · exact (hs _).symm
  · exact (hs _).symm
  · exact (hs _).symm
  · exact (Nat.testBit_and x y j).symm
  · exact (Nat.testBit_or x y j).symm
  · exact (Nat.testBit_xor x y j).symm

/-- as above, kept within bounds -/
def sat (op : List Int) (W x y : Nat) : Nat :=
  bif decide (op = [97, 100, 100, 115, 97, 116]) && decide (2 ^ W ≤ x + y) then 2 ^ W - 1 else bif decide (op = [115, 117, 98, 115, 97, 116]) && decide (x < y) then 0 else num op W x y

theorem ref02_two_ok {op : List Int} (hop : op = [97, 100, 100] ∨ op = [97, 100, 100, 115, 97, 116] ∨ op = [115, 117, 98] ∨ op = [115, 117, 98, 115, 97, 116] ∨ op = [97, 110, 100] ∨ op = [111, 114] ∨ op = [120, 111, 114]) {w u : Int} {x y : Nat} (hx : x < 340282366920938463463374607431768211456) (hy : y < 340282366920938463463374607431768211456) : ref02_Two op (vw w x) (vw u y) = some ((both w u x y (vw w (sat op w.toNat x y % 2 ^ w.toNat), 0, ())), ()) := by
  have hpv : ((vw w x).1, (vw w x).2.1, (vw w x).2.2.1, ()) = vw w x := rfl
  have hpu : ((vw u y).1, (vw u y).2.1, (vw u y).2.2.1, ()) = vw u y := rfl
  unfold ref02_Two both
  rw [hpv, hpu, ref02_May_ok hx, Option.bind_some]
  dsimp only
  cases hm : may w x
  · simp only [Bool.not_false, Bool.not_true, gsome, gfalse, cond_true, cond_false, Bool.false_and]
  · simp only [Bool.not_true, Bool.not_false, gsome, gtrue, cond_true, cond_false, Bool.true_and]
    rw [ref02_May_ok hy, Option.bind_some]
    dsimp only
    cases hm2 : may u y
    · rfl
    · simp only [Bool.not_true, cond_false, cond_true]
      rw [show (vw w x).1 = w from rfl, show (vw u y).1 = u from rfl]
      by_cases h : w = u
      · subst h
        obtain ⟨h1, h2, h3⟩ := may_of hm
        obtain ⟨W, rfl⟩ : ∃ W : Nat, w = W := ⟨w.toNat, by omega⟩
        have hxl := may_lt hm
        have hyl := may_lt hm2
        rw [Int.toNat_natCast] at hxl hyl ⊢
        rw [decide_eq_true rfl, Bool.not_true, cond_false, cond_true, ref02_Bits_ok hx, Option.bind_some, ref02_Bits_ok hy, Option.bind_some]
        dsimp only
        rw [show (min (W : Int) 128).toNat = W by omega]
        refine two_s0 (by omega) ?_
        unfold ref02_Two_s0
        have n1 : decide (op = [101, 113]) = false := by rcases hop with rfl | rfl | rfl | rfl | rfl | rfl | rfl <;> decide
        have n2 : decide (op = [108, 101, 115, 115]) = false := by rcases hop with rfl | rfl | rfl | rfl | rfl | rfl | rfl <;> decide
        rw [lrow_len, decide_eq_false (show ¬ (W : Int) < (W : Int) by omega), cond_false, n1, n2, cond_false, cond_false]
        simp only [gsome]
        have hneg : (bif decide (op = [115, 117, 98]) then true else (bif !decide (op = [115, 117, 98]) then decide (op = [115, 117, 98, 115, 97, 116]) else false)) = neg op := by
          unfold neg
          cases decide (op = [115, 117, 98]) <;> rfl
        rw [hneg, Nat.mod_eq_of_lt hxl, Nat.mod_eq_of_lt hyl]
        have hrow : lrow W (outOf op W x y) = lrow W (num op W x y).testBit := lrow_ext fun j _ => out_num hop j
        have main := s2_loop hop (less := decide (x < y)) (v := ((0, 0, 0, ()) : Int × Int × Int × Unit)) (W := W) (x := x) (y := y) (by omega) hyl (r := ((vw (W : Int) (sat op W x y % 2 ^ W), 0, ()), ())) ?_
        · rw [main]
          rfl
        · rw [hrow]
          by_cases hA : op = [97, 100, 100, 115, 97, 116] ∧ 2 ^ W ≤ x + y
          · obtain ⟨rfl, hA⟩ := hA
            have hc : car x (opd [97, 100, 100, 115, 97, 116] W y) (c0 [97, 100, 100, 115, 97, 116]) W = true := by
              show decide (2 ^ W ≤ x % 2 ^ W + y % 2 ^ W + 0) = true
              rw [Nat.mod_eq_of_lt hxl, Nat.mod_eq_of_lt hyl]
              exact decide_eq_true (by omega)
            have hs : sat [97, 100, 100, 115, 97, 116] W x y = 2 ^ W - 1 := by
              unfold sat
              rw [decide_eq_true rfl, decide_eq_true hA]
              rfl
            rw [hc, hs]
            exact s4_up (by omega)
          · by_cases hS : op = [115, 117, 98, 115, 97, 116] ∧ x < y
            · obtain ⟨rfl, hS⟩ := hS
              have hs : sat [115, 117, 98, 115, 97, 116] W x y = 0 := by
                unfold sat
                rw [decide_eq_true hS, show decide (([115, 117, 98, 115, 97, 116] : List Int) = [97, 100, 100, 115, 97, 116]) = false by decide]
                rfl
              rw [hs, decide_eq_true hS]
              exact s4_down (by omega)
            · have hs : sat op W x y = num op W x y := by
                unfold sat
                rw [← Bool.decide_and, ← Bool.decide_and, decide_eq_false hA, decide_eq_false hS]
                rfl
              rw [hs]
              refine s4_stay (by omega) ?_ ?_
              · by_cases ho : op = [97, 100, 100, 115, 97, 116]
                · subst ho
                  rw [decide_eq_true rfl, cond_true]
                  show decide (2 ^ W ≤ x % 2 ^ W + y % 2 ^ W + 0) = false
                  rw [Nat.mod_eq_of_lt hxl, Nat.mod_eq_of_lt hyl]
                  exact decide_eq_false fun h => hA ⟨rfl, by omega⟩
                · rw [decide_eq_false ho]; rfl
              · by_cases ho : op = [115, 117, 98, 115, 97, 116]
                · subst ho
                  rw [decide_eq_true rfl, cond_true]
                  exact decide_eq_false fun h => hS ⟨rfl, h⟩
                · rw [decide_eq_false ho]; rfl
      · rw [decide_eq_false h]
        rfl

theorem ref02_eq_ok {w u : Int} {x y : Nat} (hx : x < 340282366920938463463374607431768211456) (hy : y < 340282366920938463463374607431768211456) : ref02_Two [101, 113] (vw w x) (vw u y) = some ((both w u x y (vw 1 (bif decide (x = y) then 1 else 0), 0, ())), ()) := by
  have hpv : ((vw w x).1, (vw w x).2.1, (vw w x).2.2.1, ()) = vw w x := rfl
  have hpu : ((vw u y).1, (vw u y).2.1, (vw u y).2.2.1, ()) = vw u y := rfl
  unfold ref02_Two both
  rw [hpv, hpu, ref02_May_ok hx, Option.bind_some]
  dsimp only
  cases hm : may w x
  · simp only [Bool.not_false, Bool.not_true, gsome, gfalse, cond_true, cond_false, Bool.false_and]
  · simp only [Bool.not_true, Bool.not_false, gsome, gtrue, cond_true, cond_false, Bool.true_and]
    rw [ref02_May_ok hy, Option.bind_some]
    dsimp only
    cases hm2 : may u y
    · rfl
    · simp only [Bool.not_true, cond_false, cond_true]
      rw [show (vw w x).1 = w from rfl, show (vw u y).1 = u from rfl]
      by_cases h : w = u
      · subst h
        obtain ⟨h1, h2, h3⟩ := may_of hm
        obtain ⟨W, rfl⟩ : ∃ W : Nat, w = W := ⟨w.toNat, by omega⟩
        have hxl := may_lt hm
        have hyl := may_lt hm2
        rw [Int.toNat_natCast] at hxl hyl
        rw [decide_eq_true rfl, Bool.not_true, cond_false, cond_true, ref02_Bits_ok hx, Option.bind_some, ref02_Bits_ok hy, Option.bind_some]
        dsimp only
        rw [show (min (W : Int) 128).toNat = W by omega]
        refine two_s0 (by omega) ?_
        unfold ref02_Two_s0
        rw [lrow_len, decide_eq_false (show ¬ (W : Int) < (W : Int) by omega), cond_false, show decide (([101, 113] : List Int) = [101, 113]) = true by decide, cond_true, of_one, Nat.mod_eq_of_lt hxl, Nat.mod_eq_of_lt hyl]
        rfl
      · rw [decide_eq_false h]
        rfl

theorem vec_Eq_ok {w u : Int} {x y : Nat} (hx : x < 340282366920938463463374607431768211456) (hy : y < 340282366920938463463374607431768211456) : vec_Eq (vw w x) (vw u y) = some ((both w u x y (vw 1 (bif decide (x = y) then 1 else 0), 0, ())), ()) := by
  have hpv : ((vw w x).1, (vw w x).2.1, (vw w x).2.2.1, ()) = vw w x := rfl
  have hpu : ((vw u y).1, (vw u y).2.1, (vw u y).2.2.1, ()) = vw u y := rfl
  have hpx : ((wp x).1, (wp x).2.1, ()) = wp x := rfl
  have hpy : ((wp y).1, (wp y).2.1, ()) = wp y := rfl
  unfold vec_Eq vec_told_91b
  rw [hpv, hpu, two_and_ok hx hy, Option.bind_some]
  have hc : decide (cmp x y = 0) = decide (x = y) := decide_eq_decide.2 (by unfold cmp; split <;> (try split) <;> omega)
  unfold both
  cases may w x
  · rfl
  · cases may u y
    · rfl
    · by_cases h : w = u
      · subst h
        simp only [Bool.and_self, cond_true, decide_true, Bool.not_true, cond_false, vec_Word_ok, Option.bind_some, hpx, hpy, word_Cmp_ok hx hy, vec_Eq_1, hc, truth_ok]
      · simp only [decide_eq_false h]
        rfl

theorem mod128 {n W : Nat} (hW : W ≤ 128) : n % 340282366920938463463374607431768211456 % 2 ^ W = n % 2 ^ W := by
  refine Nat.mod_mod_of_dvd n ?_
  rw [show 340282366920938463463374607431768211456 = 2 ^ 128 from rfl]
  exact Nat.pow_dvd_pow 2 hW

theorem sub_mod {x y W : Nat} (hW : W ≤ 128) (hy : y < 2 ^ W) : (x + (340282366920938463463374607431768211456 - y)) % 340282366920938463463374607431768211456 % 2 ^ W = (x + (2 ^ W - 1 - y) + 1) % 2 ^ W := by
  rw [mod128 hW]
  have h128 : 340282366920938463463374607431768211456 = 2 ^ W * 2 ^ (128 - W) := by
    rw [← Nat.pow_add, show W + (128 - W) = 128 by omega]
  have hp := Nat.two_pow_pos (128 - W)
  obtain ⟨k, hk⟩ : ∃ k, 2 ^ (128 - W) = k + 1 := ⟨2 ^ (128 - W) - 1, by omega⟩
  rw [hk, Nat.mul_add, Nat.mul_one] at h128
  have : x + (340282366920938463463374607431768211456 - y) = x + (2 ^ W - 1 - y) + 1 + 2 ^ W * k := by omega
  rw [this, Nat.add_mul_mod_self_left]

theorem vec_Add2_ok {w u : Int} {x y : Nat} (hx : x < 340282366920938463463374607431768211456) (hy : y < 340282366920938463463374607431768211456) : vec_Add (vw w x) (vw u y) = some ((both w u x y (vw w (sat [97, 100, 100] w.toNat x y % 2 ^ w.toNat), 0, ())), ()) := by
  have hpv : ((vw w x).1, (vw w x).2.1, (vw w x).2.2.1, ()) = vw w x := rfl
  have hpu : ((vw u y).1, (vw u y).2.1, (vw u y).2.2.1, ()) = vw u y := rfl
  unfold vec_Add vec_two_c74 vec_Add_1 both
  rw [hpv, hpu, vec_May_ok hx, Option.bind_some]
  dsimp only
  cases hm : may w x
  · simp only [Bool.not_false, Bool.not_true, gsome, gfalse, cond_true, cond_false, Bool.false_and, Option.bind_some]
  · simp only [Bool.not_true, Bool.not_false, gsome, gtrue, cond_true, cond_false, Bool.true_and]
    rw [vec_May_ok hy, Option.bind_some]
    dsimp only
    cases hm2 : may u y
    · rfl
    · simp only [Bool.not_true, cond_false, cond_true]
      rw [show (vw w x).1 = w from rfl, show (vw u y).1 = u from rfl]
      by_cases h : w = u
      · subst h
        obtain ⟨h1, h2, h3⟩ := may_of hm
        have hpx : ((wp x).1, (wp x).2.1, ()) = wp x := rfl
        have hpy : ((wp y).1, (wp y).2.1, ()) = wp y := rfl
        have hxl := may_lt hm
        have hyl := may_lt hm2
        have hp := Nat.two_pow_pos w.toNat
        have h128 : 2 ^ w.toNat ≤ 340282366920938463463374607431768211456 := by
          rw [show 340282366920938463463374607431768211456 = 2 ^ 128 from rfl]
          exact Nat.pow_le_pow_right (by omega) (by omega)
        rw [decide_eq_true rfl, Bool.not_true, cond_false, cond_true, vec_Word_ok, Option.bind_some, vec_Word_ok, Option.bind_some]
        dsimp only
        rw [hpx, hpy, word_Add_ok hx hy]
        simp only [Option.bind_some]
        rw [vec_Cut_ok h1 h2 (Nat.mod_lt _ (by omega)), Option.bind_some, mod128 (by omega)]
        rfl
      · rw [decide_eq_false h]
        rfl

theorem vec_Sub2_ok {w u : Int} {x y : Nat} (hx : x < 340282366920938463463374607431768211456) (hy : y < 340282366920938463463374607431768211456) : vec_Sub (vw w x) (vw u y) = some ((both w u x y (vw w (sat [115, 117, 98] w.toNat x y % 2 ^ w.toNat), 0, ())), ()) := by
  have hpv : ((vw w x).1, (vw w x).2.1, (vw w x).2.2.1, ()) = vw w x := rfl
  have hpu : ((vw u y).1, (vw u y).2.1, (vw u y).2.2.1, ()) = vw u y := rfl
  unfold vec_Sub vec_two_61f vec_Sub_1 both
  rw [hpv, hpu, vec_May_ok hx, Option.bind_some]
  dsimp only
  cases hm : may w x
  · simp only [Bool.not_false, Bool.not_true, gsome, gfalse, cond_true, cond_false, Bool.false_and, Option.bind_some]
  · simp only [Bool.not_true, Bool.not_false, gsome, gtrue, cond_true, cond_false, Bool.true_and]
    rw [vec_May_ok hy, Option.bind_some]
    dsimp only
    cases hm2 : may u y
    · rfl
    · simp only [Bool.not_true, cond_false, cond_true]
      rw [show (vw w x).1 = w from rfl, show (vw u y).1 = u from rfl]
      by_cases h : w = u
      · subst h
        obtain ⟨h1, h2, h3⟩ := may_of hm
        have hpx : ((wp x).1, (wp x).2.1, ()) = wp x := rfl
        have hpy : ((wp y).1, (wp y).2.1, ()) = wp y := rfl
        have hxl := may_lt hm
        have hyl := may_lt hm2
        have hp := Nat.two_pow_pos w.toNat
        have h128 : 2 ^ w.toNat ≤ 340282366920938463463374607431768211456 := by
          rw [show 340282366920938463463374607431768211456 = 2 ^ 128 from rfl]
          exact Nat.pow_le_pow_right (by omega) (by omega)
        rw [decide_eq_true rfl, Bool.not_true, cond_false, cond_true, vec_Word_ok, Option.bind_some, vec_Word_ok, Option.bind_some]
        dsimp only
        rw [hpx, hpy, word_Sub_ok hx hy]
        simp only [Option.bind_some]
        rw [vec_Cut_ok h1 h2 (Nat.mod_lt _ (by omega)), Option.bind_some, sub_mod (by omega) hyl]
        rfl
      · rw [decide_eq_false h]
        rfl

theorem vec_SubSat2_ok {w u : Int} {x y : Nat} (hx : x < 340282366920938463463374607431768211456) (hy : y < 340282366920938463463374607431768211456) : vec_SubSat (vw w x) (vw u y) = some ((both w u x y (vw w (sat [115, 117, 98, 115, 97, 116] w.toNat x y % 2 ^ w.toNat), 0, ())), ()) := by
  have hpv : ((vw w x).1, (vw w x).2.1, (vw w x).2.2.1, ()) = vw w x := rfl
  have hpu : ((vw u y).1, (vw u y).2.1, (vw u y).2.2.1, ()) = vw u y := rfl
  unfold vec_SubSat vec_two_c80 vec_SubSat_1 both
  rw [hpv, hpu, vec_May_ok hx, Option.bind_some]
  dsimp only
  cases hm : may w x
  · simp only [Bool.not_false, Bool.not_true, gsome, gfalse, cond_true, cond_false, Bool.false_and, Option.bind_some]
  · simp only [Bool.not_true, Bool.not_false, gsome, gtrue, cond_true, cond_false, Bool.true_and]
    rw [vec_May_ok hy, Option.bind_some]
    dsimp only
    cases hm2 : may u y
    · rfl
    · simp only [Bool.not_true, cond_false, cond_true]
      rw [show (vw w x).1 = w from rfl, show (vw u y).1 = u from rfl]
      by_cases h : w = u
      · subst h
        obtain ⟨h1, h2, h3⟩ := may_of hm
        have hpx : ((wp x).1, (wp x).2.1, ()) = wp x := rfl
        have hpy : ((wp y).1, (wp y).2.1, ()) = wp y := rfl
        have hxl := may_lt hm
        have hyl := may_lt hm2
        have hp := Nat.two_pow_pos w.toNat
        have h128 : 2 ^ w.toNat ≤ 340282366920938463463374607431768211456 := by
          rw [show 340282366920938463463374607431768211456 = 2 ^ 128 from rfl]
          exact Nat.pow_le_pow_right (by omega) (by omega)
        rw [decide_eq_true rfl, Bool.not_true, cond_false, cond_true, vec_Word_ok, Option.bind_some, vec_Word_ok, Option.bind_some]
        dsimp only
        rw [hpx, hpy, word_Sub_ok hx hy]
        simp only [Option.bind_some]
        by_cases hlt : x < y
        · rw [decide_eq_true hlt, cond_true, Option.bind_some]
          dsimp only
          rw [wp0, vec_Cut_ok h1 h2 (by omega), Option.bind_some]
          have : sat [115, 117, 98, 115, 97, 116] w.toNat x y = 0 := by
            unfold sat
            rw [decide_eq_true hlt]
            rfl
          rw [this]
          rfl
        · rw [decide_eq_false hlt, cond_false, Option.bind_some]
          dsimp only
          rw [vec_Cut_ok h1 h2 (Nat.mod_lt _ (by omega)), Option.bind_some, sub_mod (by omega) hyl]
          have : sat [115, 117, 98, 115, 97, 116] w.toNat x y = x + (2 ^ w.toNat - 1 - y) + 1 := by
            unfold sat
            rw [decide_eq_false hlt]
            rfl
          rw [this]
          rfl
      · rw [decide_eq_false h]
        rfl

theorem vec_Or2_ok {w u : Int} {x y : Nat} (hx : x < 340282366920938463463374607431768211456) (hy : y < 340282366920938463463374607431768211456) : vec_Or (vw w x) (vw u y) = some ((both w u x y (vw w (sat [111, 114] w.toNat x y % 2 ^ w.toNat), 0, ())), ()) := by
  have hpv : ((vw w x).1, (vw w x).2.1, (vw w x).2.2.1, ()) = vw w x := rfl
  have hpu : ((vw u y).1, (vw u y).2.1, (vw u y).2.2.1, ()) = vw u y := rfl
  unfold vec_Or vec_two_bf1 both
  rw [hpv, hpu, vec_May_ok hx, Option.bind_some]
  dsimp only
  cases hm : may w x
  · simp only [Bool.not_false, Bool.not_true, gsome, gfalse, cond_true, cond_false, Bool.false_and, Option.bind_some]
  · simp only [Bool.not_true, Bool.not_false, gsome, gtrue, cond_true, cond_false, Bool.true_and]
    rw [vec_May_ok hy, Option.bind_some]
    dsimp only
    cases hm2 : may u y
    · rfl
    · simp only [Bool.not_true, cond_false, cond_true]
      rw [show (vw w x).1 = w from rfl, show (vw u y).1 = u from rfl]
      by_cases h : w = u
      · subst h
        obtain ⟨h1, h2, h3⟩ := may_of hm
        have hpx : ((wp x).1, (wp x).2.1, ()) = wp x := rfl
        have hpy : ((wp y).1, (wp y).2.1, ()) = wp y := rfl
        have hxl := may_lt hm
        have hyl := may_lt hm2
        have hp := Nat.two_pow_pos w.toNat
        have h128 : 2 ^ w.toNat ≤ 340282366920938463463374607431768211456 := by
          rw [show 340282366920938463463374607431768211456 = 2 ^ 128 from rfl]
          exact Nat.pow_le_pow_right (by omega) (by omega)
        rw [decide_eq_true rfl, Bool.not_true, cond_false, cond_true, vec_Word_ok, Option.bind_some, vec_Word_ok, Option.bind_some]
        dsimp only
        rw [word_Or_ok hx hy, Option.bind_some]
        dsimp only
        rw [vec_Cut_ok h1 h2 (Nat.or_lt_two_pow (n := 128) hx hy), Option.bind_some]
        rfl
      · rw [decide_eq_false h]
        rfl

theorem vec_Xor2_ok {w u : Int} {x y : Nat} (hx : x < 340282366920938463463374607431768211456) (hy : y < 340282366920938463463374607431768211456) : vec_Xor (vw w x) (vw u y) = some ((both w u x y (vw w (sat [120, 111, 114] w.toNat x y % 2 ^ w.toNat), 0, ())), ()) := by
  have hpv : ((vw w x).1, (vw w x).2.1, (vw w x).2.2.1, ()) = vw w x := rfl
  have hpu : ((vw u y).1, (vw u y).2.1, (vw u y).2.2.1, ()) = vw u y := rfl
  unfold vec_Xor vec_two_b0d both
  rw [hpv, hpu, vec_May_ok hx, Option.bind_some]
  dsimp only
  cases hm : may w x
  · simp only [Bool.not_false, Bool.not_true, gsome, gfalse, cond_true, cond_false, Bool.false_and, Option.bind_some]
  · simp only [Bool.not_true, Bool.not_false, gsome, gtrue, cond_true, cond_false, Bool.true_and]
    rw [vec_May_ok hy, Option.bind_some]
    dsimp only
    cases hm2 : may u y
    · rfl
    · simp only [Bool.not_true, cond_false, cond_true]
      rw [show (vw w x).1 = w from rfl, show (vw u y).1 = u from rfl]
      by_cases h : w = u
      · subst h
        obtain ⟨h1, h2, h3⟩ := may_of hm
        have hpx : ((wp x).1, (wp x).2.1, ()) = wp x := rfl
        have hpy : ((wp y).1, (wp y).2.1, ()) = wp y := rfl
        have hxl := may_lt hm
        have hyl := may_lt hm2
        have hp := Nat.two_pow_pos w.toNat
        have h128 : 2 ^ w.toNat ≤ 340282366920938463463374607431768211456 := by
          rw [show 340282366920938463463374607431768211456 = 2 ^ 128 from rfl]
          exact Nat.pow_le_pow_right (by omega) (by omega)
        rw [decide_eq_true rfl, Bool.not_true, cond_false, cond_true, vec_Word_ok, Option.bind_some, vec_Word_ok, Option.bind_some]
        dsimp only
        rw [word_Xor_ok hx hy, Option.bind_some]
        dsimp only
        rw [vec_Cut_ok h1 h2 (Nat.xor_lt_two_pow (n := 128) hx hy), Option.bind_some]
        rfl
      · rw [decide_eq_false h]
        rfl

theorem vec_And2_ok {w u : Int} {x y : Nat} (hx : x < 340282366920938463463374607431768211456) (hy : y < 340282366920938463463374607431768211456) : vec_And (vw w x) (vw u y) = some ((both w u x y (vw w (sat [97, 110, 100] w.toNat x y % 2 ^ w.toNat), 0, ())), ()) := by
  have hpv : ((vw w x).1, (vw w x).2.1, (vw w x).2.2.1, ()) = vw w x := rfl
  have hpu : ((vw u y).1, (vw u y).2.1, (vw u y).2.2.1, ()) = vw u y := rfl
  unfold vec_And vec_two_d65 both
  rw [hpv, hpu, vec_May_ok hx, Option.bind_some]
  dsimp only
  cases hm : may w x
  · simp only [Bool.not_false, Bool.not_true, gsome, gfalse, cond_true, cond_false, Bool.false_and, Option.bind_some]
  · simp only [Bool.not_true, Bool.not_false, gsome, gtrue, cond_true, cond_false, Bool.true_and]
    rw [vec_May_ok hy, Option.bind_some]
    dsimp only
    cases hm2 : may u y
    · rfl
    · simp only [Bool.not_true, cond_false, cond_true]
      rw [show (vw w x).1 = w from rfl, show (vw u y).1 = u from rfl]
      by_cases h : w = u
      · subst h
        obtain ⟨h1, h2, h3⟩ := may_of hm
        have hpx : ((wp x).1, (wp x).2.1, ()) = wp x := rfl
        have hpy : ((wp y).1, (wp y).2.1, ()) = wp y := rfl
        have hxl := may_lt hm
        have hyl := may_lt hm2
        have hp := Nat.two_pow_pos w.toNat
        have h128 : 2 ^ w.toNat ≤ 340282366920938463463374607431768211456 := by
          rw [show 340282366920938463463374607431768211456 = 2 ^ 128 from rfl]
          exact Nat.pow_le_pow_right (by omega) (by omega)
        rw [decide_eq_true rfl, Bool.not_true, cond_false, cond_true, vec_Word_ok, Option.bind_some, vec_Word_ok, Option.bind_some]
        dsimp only
        rw [word_And_ok hx hy, Option.bind_some]
        dsimp only
        rw [vec_Cut_ok h1 h2 (Nat.and_lt_two_pow (n := 128) x hy), Option.bind_some]
        rfl
      · rw [decide_eq_false h]
        rfl

theorem vec_AddSat2_ok {w u : Int} {x y : Nat} (hx : x < 340282366920938463463374607431768211456) (hy : y < 340282366920938463463374607431768211456) : vec_AddSat (vw w x) (vw u y) = some ((both w u x y (vw w (sat [97, 100, 100, 115, 97, 116] w.toNat x y % 2 ^ w.toNat), 0, ())), ()) := by
  have hpv : ((vw w x).1, (vw w x).2.1, (vw w x).2.2.1, ()) = vw w x := rfl
  have hpu : ((vw u y).1, (vw u y).2.1, (vw u y).2.2.1, ()) = vw u y := rfl
  unfold vec_AddSat
  rw [word_Ones_ok, Option.bind_some, hpv, hpu, show (vw w x).1 = w from rfl]
  dsimp only
  unfold vec_two_575 vec_AddSat_1_6da both
  rw [hpv, hpu, vec_May_ok hx, Option.bind_some]
  dsimp only
  cases hm : may w x
  · simp only [Bool.not_false, Bool.not_true, gsome, gfalse, cond_true, cond_false, Bool.false_and, Option.bind_some]
  · simp only [Bool.not_true, Bool.not_false, gsome, gtrue, cond_true, cond_false, Bool.true_and]
    rw [vec_May_ok hy, Option.bind_some]
    dsimp only
    cases hm2 : may u y
    · rfl
    · simp only [Bool.not_true, cond_false, cond_true]
      rw [show (vw w x).1 = w from rfl, show (vw u y).1 = u from rfl]
      by_cases h : w = u
      · subst h
        obtain ⟨h1, h2, h3⟩ := may_of hm
        have hpx : ((wp x).1, (wp x).2.1, ()) = wp x := rfl
        have hpy : ((wp y).1, (wp y).2.1, ()) = wp y := rfl
        have hxl := may_lt hm
        have hyl := may_lt hm2
        have hp := Nat.two_pow_pos w.toNat
        have h128 : 2 ^ w.toNat ≤ 340282366920938463463374607431768211456 := by
          rw [show 340282366920938463463374607431768211456 = 2 ^ 128 from rfl]
          exact Nat.pow_le_pow_right (by omega) (by omega)
        rw [decide_eq_true rfl, Bool.not_true, cond_false, cond_true, vec_Word_ok, Option.bind_some, vec_Word_ok, Option.bind_some]
        dsimp only
        have hpz : ∀ n, ((wp n).1, (wp n).2.1, ()) = wp n := fun _ => rfl
        rw [Nat.min_eq_left (show w.toNat ≤ 128 by omega), hpx, hpy, word_Add_ok hx hy, Option.bind_some]
        simp only [hpz]
        by_cases hc : 340282366920938463463374607431768211456 ≤ x + y
        · rw [decide_eq_true hc]
          simp only [Bool.not_true, gfalse, cond_true, Option.bind_some]
          rw [vec_Cut_ok h1 h2 (by omega), Option.bind_some]
          have : sat [97, 100, 100, 115, 97, 116] w.toNat x y = 2 ^ w.toNat - 1 := by
            unfold sat
            rw [decide_eq_true (show 2 ^ w.toNat ≤ x + y by omega)]
            rfl
          rw [this]
          rfl
        · rw [decide_eq_false hc]
          simp only [Bool.not_false, gtrue, cond_true, cond_false, Nat.mod_eq_of_lt (show x + y < 340282366920938463463374607431768211456 by omega)]
          rw [word_Cmp_ok (by omega) (by omega), Option.bind_some]
          dsimp only
          by_cases hs : x + y < 2 ^ w.toNat
          · rw [decide_eq_false (show ¬ cmp (x + y) (2 ^ w.toNat - 1) > 0 by unfold cmp; split <;> (try split) <;> omega), cond_false, Option.bind_some]
            dsimp only
            rw [vec_Cut_ok h1 h2 (by omega), Option.bind_some]
            have : sat [97, 100, 100, 115, 97, 116] w.toNat x y = x + y := by
              unfold sat
              rw [decide_eq_false (show ¬ 2 ^ w.toNat ≤ x + y by omega)]
              rfl
            rw [this]
            rfl
          · rw [decide_eq_true (show cmp (x + y) (2 ^ w.toNat - 1) > 0 by unfold cmp; split <;> (try split) <;> omega), cond_true, Option.bind_some]
            dsimp only
            rw [vec_Cut_ok h1 h2 (by omega), Option.bind_some]
            have : sat [97, 100, 100, 115, 97, 116] w.toNat x y = 2 ^ w.toNat - 1 := by
              unfold sat
              rw [decide_eq_true (show 2 ^ w.toNat ≤ x + y by omega)]
              rfl
            rw [this]
            rfl
      · rw [decide_eq_false h]
        rfl

end Go.L
