/- The functions that the statements reach as plain Lean, and what they compute. -/
import Derived.Test.YtkpiocglghnnhaaDoorQ9

set_option linter.unusedSimpArgs false
set_option linter.unusedVariables false

namespace Go.L
open Go Go.Pv
set_option maxRecDepth 100000

theorem loop_up {σ ρ : Type} {f : σ → Option (σ ⊕ ρ)} (st : Nat → σ) (n : Nat) {r : ρ} (step : ∀ i, i < n → f (st i) = some (.inl (st (i + 1)))) (stop : f (st n) = some (.inr r)) : ∀ k, k ≤ n → loopR f (st k) = some r := by
 intro k hk
 induction h : n - k generalizing k with
 | zero =>
  have : k = n := by omega
  subst this
  exact loopR_out stop
 | succ m ih => exact loopR_on (step k (by omega)) (ih (k + 1) (by omega) (by omega))

theorem ck_nat {β : Type} {i n : Nat} (h : i < n) (k : Int → Option β) : (Option.map (fun _ => (i : Int)) (ckI (i : Int) n)).bind k = k i := by
 unfold ckI
 rw [if_pos ⟨by omega, by omega⟩]
 rfl

theorem wi64 {i : Nat} (h : i < 1000000000) : IntKind.i64.wrap ((i : Int) + 1) = ((i + 1 : Nat) : Int) := by
 rw [wrap_i64 (by omega) (by omega)]; omega

theorem nbeq {i j : Nat} (h : i ≠ j) : Nat.beq i j = false := by
 cases hb : Nat.beq i j with
 | false => rfl
 | true => exact absurd (Nat.eq_of_beq_eq_true hb) h

def row (f : Nat → Bool) : List Bool := (List.range 128).map f

theorem row_len (f : Nat → Bool) : (row f).length = 128 := by simp [row]

theorem row_get (f : Nat → Bool) {i : Nat} (h : i < 128) : (row f)[i]? = some (f i) := by simp [row, h]

theorem row_ext {f g : Nat → Bool} (h : ∀ i, i < 128 → f i = g i) : row f = row g := by
 unfold row
 exact List.map_congr_left fun i hi => h i (List.mem_range.1 hi)

theorem row_rd (f : Nat → Bool) {i : Nat} (h : i < 128) : rdI (row f) (i : Int) = some (f i) := by
 unfold rdI
 rw [if_pos (by omega)]
 simpa using row_get f h

theorem row_st (f : Nat → Bool) {i : Nat} (h : i < 128) (v : Bool) : stI (row f) (i : Int) v = some (row fun j => bif Nat.beq j i then v else f j) := by
 unfold stI
 rw [if_pos ⟨by omega, by rw [row_len]; simpa using h⟩]
 congr 1
 apply List.ext_getElem?
 intro j
 rw [List.getElem?_set, Int.toNat_natCast]
 by_cases hj : j < 128
 ·rw [row_get _ hj]
  by_cases e : i = j
  ·subst e
   rw [if_pos rfl, if_pos (by rw [row_len]; exact hj), row_get _ hj, Nat.beq_refl]
   rfl
  ·rw [if_neg e, row_get _ hj, nbeq (fun h => e h.symm)]
   rfl
 ·have h1 : ∀ g : Nat → Bool, (row g)[j]? = none := fun g => List.getElem?_eq_none (by rw [row_len]; omega)
  rw [h1, h1, if_neg (by omega)]

theorem row_zero : List.replicate 128 false = row fun _ => false := by decide

def rowB (x : BitVec 128) : List Bool := row x.getLsbD

def bld (f : Nat → Bool) (i : Nat) : List Bool := row fun j => decide (j < i) && f j

theorem bld_st (f : Nat → Bool) {i : Nat} (hi : i < 128) {v : Bool} (hv : v = f i) : stI (bld f i) (i : Int) v = some (bld f (i + 1)) := by
 unfold bld
 rw [row_st _ hi]
 congr 1
 refine row_ext fun j hj => ?_
 by_cases e : j = i
 ·subst e; simp [hv]
 ·rw [nbeq e]
  simp only [cond_false]
  congr 1
  by_cases h : j < i
  ·simp [h]; omega
  ·simp [h]; omega

theorem bld_zero (f : Nat → Bool) : bld f 0 = List.replicate 128 false := by rw [row_zero]; exact row_ext fun i _ => by simp
theorem bld_full (f : Nat → Bool) : bld f 128 = row f := row_ext fun i hi => by simp [hi]

theorem bld_skip (f : Nat → Bool) {i : Nat} (hv : f i = false) : bld f (i + 1) = bld f i := by
 refine row_ext fun j _ => ?_
 by_cases e : j = i
 ·subst e; simp [hv]
 ·by_cases h : j < i
  ·simp [h]; omega
  ·simp [h]; omega

theorem gsome {α β : Type} (b : Bool) (v d : β) (k : β → Option α) : guardR b (some v) d k = k (bif b then v else d) := rfl
theorem gtrue {α β : Type} (x : Option β) (d : β) (k : β → Option α) : guardR true x d k = x.bind k := by cases x <;> rfl
theorem gfalse {α β : Type} (x : Option β) (d : β) (k : β → Option α) : guardR false x d k = k d := by cases x <;> rfl

theorem dlt {i n : Nat} (h : i < n) : decide ((i : Int) < (n : Int)) = true := decide_eq_true (by omega)
theorem dge (n : Nat) : decide ((n : Int) < (n : Int)) = false := decide_eq_false (by omega)

theorem ref01_Sum_ok (x y : BitVec 128) (c : Bool) : ref01_Sum (rowB x) (rowB y) c = some ((rowB (x + y + BitVec.setWidth 128 (BitVec.ofBool c)), BitVec.carry 128 x y c, ()), ()) := by
 unfold ref01_Sum
 let r := bld (x + y + BitVec.setWidth 128 (BitVec.ofBool c)).getLsbD
 have key := loop_up (f := fun (z : (Bool × Int × Unit) × ((List Bool) × (List Bool) × (List Bool) × (List Bool) × Unit)) => ref01_Sum_s0 z.1.1 z.1.2.1 z.2.1 z.2.2.1 z.2.2.2.1 z.2.2.2.2.1)
  (fun i => ((BitVec.carry i x y c, (i : Int), ()), rowB x, rowB y, List.replicate 128 false, r i, ())) 128 (r := ((rowB (x + y + BitVec.setWidth 128 (BitVec.ofBool c)), BitVec.carry 128 x y c, ()), ())) ?_ ?_ 0 (by omega)
 ·have hc : BitVec.carry 0 x y c = c := BitVec.carry_zero
  simp only [r, bld_zero, hc] at key
  exact key
 ·intro i hi
  have hb := BitVec.getLsbD_add_add_bool hi x y c
  have hs := BitVec.carry_succ i x y c
  simp only
  unfold ref01_Sum_s0
  rw [show decide ((i : Int) < 128) = true from decide_eq_true (by omega), cond_true]
  simp only [ck_nat hi, rowB, row_rd _ hi, Option.bind_some, wi64 (show i < 1000000000 by omega)]
  rw [hs]
  cases hx : x.getLsbD i <;> cases hy : y.getLsbD i <;> cases hcc : BitVec.carry i x y c <;> simp only [cond_true, cond_false] <;>
   (rw [bld_st _ hi (by rw [hb, hx, hy, hcc]; decide)]; simp only [Option.bind_some]; rfl)
 ·simp only
  unfold ref01_Sum_s0
  rw [show decide (((128 : Nat) : Int) < 128) = false from decide_eq_false (by omega), cond_false]
  simp only [r, bld_full]
  rfl

theorem ref01_Turned_ok (x : BitVec 128) : ref01_Turned (rowB x) = some ((rowB (~~~x), ()), ()) := by
 unfold ref01_Turned
 have key := loop_up (f := fun (z : (Int × Unit) × ((List Bool) × (List Bool) × (List Bool) × Unit)) => ref01_Turned_s0 z.1.1 z.2.1 z.2.2.1 z.2.2.2.1)
  (fun i => (((i : Int), ()), rowB x, List.replicate 128 false, bld (~~~x).getLsbD i, ())) 128 (r := ((rowB (~~~x), ()), ())) ?_ ?_ 0 (by omega)
 ·simp only [bld_zero] at key
  exact key
 ·intro i hi
  simp only
  unfold ref01_Turned_s0
  rw [show decide ((i : Int) < 128) = true from decide_eq_true (by omega), cond_true]
  simp only [ck_nat hi, rowB, row_rd _ hi, Option.bind_some, wi64 (show i < 1000000000 by omega)]
  rw [bld_st _ hi (by simp [hi])]
  rfl
 ·simp only
  unfold ref01_Turned_s0
  rw [show decide (((128 : Nat) : Int) < 128) = false from decide_eq_false (by omega), cond_false, bld_full]
  rfl

theorem nat_lt_bit {n m i : Nat} (hn : n.testBit i = false) (hm : m.testBit i = true) (h : ∀ j, i < j → n.testBit j = m.testBit j) : n < m := by
 have h1 : n / 2 ^ (i + 1) = m / 2 ^ (i + 1) := by
  apply Nat.eq_of_testBit_eq
  intro j
  rw [Nat.testBit_div_two_pow, Nat.testBit_div_two_pow]
  exact h _ (by omega)
 rw [Nat.testBit_eq_decide_div_mod_eq] at hn hm
 have hn := of_decide_eq_false hn
 have hm := of_decide_eq_true hm
 rw [Nat.pow_succ, ← Nat.div_div_eq_div_mul, ← Nat.div_div_eq_div_mul] at h1
 have : n / 2 ^ i < m / 2 ^ i := by omega
 rcases Nat.lt_or_ge n m with h | h
 ·exact h
 ·have := Nat.div_le_div_right (c := 2 ^ i) h
  omega

theorem lt_bit {x y : BitVec 128} {i : Nat} (hi : i < 128) (hab : ∀ j, i < j → j < 128 → x.getLsbD j = y.getLsbD j) (h : x.getLsbD i ≠ y.getLsbD i) : decide (x.toNat < y.toNat) = y.getLsbD i := by
 have hj : ∀ j, i < j → x.toNat.testBit j = y.toNat.testBit j := fun j hj => by
  by_cases h : j < 128
  ·exact hab j hj h
  ·rw [Nat.testBit_lt_two_pow (Nat.lt_of_lt_of_le x.isLt (Nat.pow_le_pow_right (by omega) (by omega))), Nat.testBit_lt_two_pow (Nat.lt_of_lt_of_le y.isLt (Nat.pow_le_pow_right (by omega) (by omega)))]
 cases hy : y.getLsbD i with
 | true =>
  have hx : x.getLsbD i = false := by cases hx : x.getLsbD i <;> simp_all
  exact decide_eq_true (nat_lt_bit (i := i) hx hy hj)
 | false =>
  have hx : x.getLsbD i = true := by cases hx : x.getLsbD i <;> simp_all
  have := nat_lt_bit (n := y.toNat) (m := x.toNat) (i := i) hy hx fun j h => (hj j h).symm
  exact decide_eq_false (by omega)

theorem wi64d {i : Nat} (h : i < 1000000000) : IntKind.i64.wrap ((i : Int) - 1) = (i : Int) - 1 := wrap_i64 (by omega) (by omega)

theorem loop_down {σ ρ : Type} {f : σ → Option (σ ⊕ ρ)} (st : Nat → σ) (I : Nat → Prop) {r : ρ} (step : ∀ i, I (i + 1) → (f (st (i + 1)) = some (.inl (st i)) ∧ I i) ∨ f (st (i + 1)) = some (.inr r)) (stop : I 0 → f (st 0) = some (.inr r)) : ∀ n, I n → loopR f (st n) = some r
 | 0, h => loopR_out (stop h)
 | n + 1, h => by
  rcases step n h with ⟨h1, h2⟩ | h1
  ·exact loopR_on h1 (loop_down st I step stop n h2)
  ·exact loopR_out h1

theorem dpos (i : Nat) : decide ((((i + 1 : Nat) : Int) - 1) ≥ 0) = true := decide_eq_true (by omega)
theorem dneg : decide ((((0 : Nat) : Int) - 1) ≥ 0) = false := decide_eq_false (by omega)
theorem pm (i : Nat) : (((i + 1 : Nat) : Int) - 1) = (i : Int) := by omega

theorem ref01_Less_ok (x y : BitVec 128) : ref01_Less (rowB x) (rowB y) = some ((decide (x.toNat < y.toNat), ()), ()) := by
 unfold ref01_Less
 have key := loop_down (f := fun (z : (Int × Unit) × ((List Bool) × (List Bool) × Unit)) => ref01_Less_s0 z.1.1 z.2.1 z.2.2.1)
  (fun i => ((((i : Nat) : Int) - 1, ()), rowB x, rowB y, ())) (fun i => i ≤ 128 ∧ ∀ j, i ≤ j → j < 128 → x.getLsbD j = y.getLsbD j) (r := ((decide (x.toNat < y.toNat), ()), ())) ?_ ?_ 128 ⟨by omega, fun j h1 h2 => by omega⟩
 ·exact key
 ·intro i ⟨hi, hI⟩
  have hi' : i < 128 := by omega
  simp only
  unfold ref01_Less_s0
  rw [dpos, cond_true, pm]
  simp only [ck_nat hi', rowB, row_rd _ hi', Option.bind_some]
  by_cases he : x.getLsbD i = y.getLsbD i
  ·left
   rw [decide_eq_true he, Bool.not_true, cond_false, wi64d (by omega)]
   refine ⟨rfl, by omega, fun j h1 h2 => ?_⟩
   by_cases e : j = i
   ·rw [e]; exact he
   ·exact hI j (by omega) h2
  ·right
   rw [decide_eq_false he, Bool.not_false, cond_true, lt_bit hi' (fun j h1 h2 => hI j (by omega) h2) he]
 ·intro ⟨_, hI⟩
  have : x = y := BitVec.eq_of_getLsbD_eq fun i hi => hI i (by omega) hi
  subst this
  simp only
  unfold ref01_Less_s0
  rw [dneg, cond_false, decide_eq_false (Nat.lt_irrefl _)]

theorem ref01_Minus_ok (x y : BitVec 128) : ref01_Minus (rowB x) (rowB y) = some ((rowB (x - y), decide (x.toNat < y.toNat), ()), ()) := by
 unfold ref01_Minus
 rw [ref01_Turned_ok, Option.bind_some, ref01_Sum_ok, Option.bind_some, ref01_Less_ok, Option.bind_some]
 have : x + ~~~y + BitVec.setWidth 128 (BitVec.ofBool true) = x - y := by
  rw [BitVec.sub_eq_add_neg, BitVec.neg_eq_not_add, BitVec.add_assoc]
  rfl
 rw [this]

theorem ref01_Moved_ok (x : BitVec 128) (n : Int) : ref01_Moved (rowB x) n = some ((rowB (if 0 ≤ n ∧ n < 128 then x <<< n.toNat else if -128 < n ∧ n < 0 then x >>> (-n).toNat else 0), ()), ()) := by
 unfold ref01_Moved
 let g : BitVec 128 := if 0 ≤ n ∧ n < 128 then x <<< n.toNat else if -128 < n ∧ n < 0 then x >>> (-n).toNat else 0
 have hg : ∀ i, i < 128 → g.getLsbD i = if -128 < n ∧ n < 128 ∧ 0 ≤ (i : Int) - n ∧ (i : Int) - n < 128 then x.getLsbD ((i : Int) - n).toNat else false := by
  intro i hi
  simp only [g]
  by_cases h1 : 0 ≤ n ∧ n < 128
  ·rw [if_pos h1, BitVec.getLsbD_shiftLeft]
   by_cases h2 : 0 ≤ (i : Int) - n
   ·rw [if_pos ⟨by omega, by omega, h2, by omega⟩, show ((i : Int) - n).toNat = i - n.toNat by omega]
    simp [hi]; omega
   ·rw [if_neg (by omega)]
    simp; omega
  ·rw [if_neg h1]
   by_cases h2 : -128 < n ∧ n < 0
   ·rw [if_pos h2, BitVec.getLsbD_ushiftRight]
    by_cases h3 : (i : Int) - n < 128
    ·rw [if_pos ⟨by omega, by omega, by omega, h3⟩, show ((i : Int) - n).toNat = (-n).toNat + i by omega]
    ·rw [if_neg (by omega)]
     exact BitVec.getLsbD_of_ge _ _ (by omega)
   ·rw [if_neg h2, if_neg (by omega)]
    simp
 have key := loop_up (f := fun (z : (Int × Int × Unit) × ((List Bool) × (List Bool) × (List Bool) × Unit)) => ref01_Moved_s0 z.1.1 z.1.2.1 z.2.1 z.2.2.1 z.2.2.2.1)
  (fun i => ((n, (i : Int), ()), rowB x, List.replicate 128 false, bld g.getLsbD i, ())) 128 (r := ((rowB g, ()), ())) ?_ ?_ 0 (by omega)
 ·simp only [bld_zero] at key
  exact key
 ·intro i hi
  have hgi := hg i hi
  simp only
  unfold ref01_Moved_s0
  rw [show decide ((i : Int) < 128) = true from decide_eq_true (by omega), cond_true]
  by_cases hn : -128 < n ∧ n < 128
  ·have hw : IntKind.i64.wrap ((i : Int) - n) = (i : Int) - n := wrap_i64 (by omega) (by omega)
   simp only [gsome, decide_eq_true (show n > -128 from hn.1), decide_eq_true hn.2, cond_true, hw]
   by_cases h1 : (i : Int) - n ≥ 0
   ·by_cases h2 : (i : Int) - n < 128
    ·simp only [decide_eq_true h1, decide_eq_true h2, cond_true]
     rw [if_pos ⟨hn.1, hn.2, h1, h2⟩] at hgi
     obtain ⟨m, hm⟩ : ∃ m : Nat, (i : Int) - n = m := ⟨_, (Int.toNat_of_nonneg h1).symm⟩
     rw [hm] at hgi ⊢
     rw [ck_nat (show m < 128 by omega)]
     simp only [rowB]
     rw [row_rd _ (by omega), Option.bind_some, ck_nat hi, bld_st _ hi (by rw [hgi]; rfl), Option.bind_some, wi64 (by omega)]
    ·simp only [decide_eq_true h1, decide_eq_false h2, cond_true, cond_false]
     rw [bld_skip _ (by rw [hgi, if_neg (by omega)]), wi64 (by omega)]
   ·simp only [decide_eq_false h1, cond_true, cond_false]
    rw [bld_skip _ (by rw [hgi, if_neg (by omega)]), wi64 (by omega)]
  ·rw [bld_skip _ (by rw [hgi, if_neg (by omega)])]
   by_cases h1 : n > -128
   ·simp only [gsome, decide_eq_true h1, decide_eq_false (show ¬ n < 128 by omega), cond_true, cond_false]
    rw [wi64 (by omega)]
   ·simp only [gsome, decide_eq_false h1, cond_false]
    rw [wi64 (by omega)]
 ·simp only
  unfold ref01_Moved_s0
  rw [show decide (((128 : Nat) : Int) < 128) = false from decide_eq_false (by omega), cond_false, bld_full]
  rfl

theorem moved_up (x : BitVec 128) {n : Nat} (h : n < 128) : ref01_Moved (rowB x) (n : Int) = some ((rowB (x <<< n), ()), ()) := by
 rw [ref01_Moved_ok, if_pos ⟨by omega, by omega⟩]; rfl

theorem setW0 : BitVec.setWidth 128 (BitVec.ofBool false) = 0 := by decide

theorem sum0 (x y : BitVec 128) : ref01_Sum (rowB x) (rowB y) false = some ((rowB (x + y), BitVec.carry 128 x y false, ()), ()) := by
 rw [ref01_Sum_ok, setW0, show x + y + 0 = x + y by simp]

theorem ref01_Product_ok (x y : BitVec 128) : ref01_Product (rowB x) (rowB y) = some ((rowB (x * y), ()), ()) := by
 unfold ref01_Product
 let r : Nat → BitVec 128 := fun i => x * BitVec.ofNat 128 (y.toNat % 2 ^ i)
 have hr : ∀ i, i < 128 → r (i + 1) = r i + (if y.getLsbD i then x <<< i else 0) := by
  intro i hi
  simp only [r]
  have h1 : y.toNat % 2 ^ (i + 1) = y.toNat % 2 ^ i + (if y.getLsbD i then 2 ^ i else 0) := by
   rw [Nat.mod_pow_succ]
   congr 1
   rw [BitVec.getLsbD, Nat.testBit_eq_decide_div_mod_eq]
   have : y.toNat / 2 ^ i % 2 = 0 ∨ y.toNat / 2 ^ i % 2 = 1 := by omega
   rcases this with h | h <;> simp [h]
  rw [h1]
  cases y.getLsbD i with
  | true =>
   simp only [if_true]
   rw [BitVec.ofNat_add, BitVec.mul_add, BitVec.shiftLeft_eq_mul_twoPow]
   congr 2
   apply BitVec.eq_of_toNat_eq
   simp [BitVec.toNat_twoPow]
  | false => simp
 have key := loop_up (f := fun (z : (Int × Unit) × ((List Bool) × (List Bool) × (List Bool) × (List Bool) × Unit)) => ref01_Product_s0 z.1.1 z.2.1 z.2.2.1 z.2.2.2.1 z.2.2.2.2.1)
  (fun i => (((i : Int), ()), rowB x, rowB y, List.replicate 128 false, rowB (r i), ())) 128 (r := ((rowB (x * y), ()), ())) ?_ ?_ 0 (by omega)
 ·have h0 : rowB (r 0) = List.replicate 128 false := by
   have : r 0 = 0 := by simp [r, Nat.mod_one]
   rw [this, row_zero]
   exact row_ext fun i _ => by simp
  simp only [h0] at key
  exact key
 ·intro i hi
  simp only
  unfold ref01_Product_s0
  rw [show decide ((i : Int) < 128) = true from decide_eq_true (by omega), cond_true, ck_nat hi]
  rw [show rdI (rowB y) (i : Int) = some (y.getLsbD i) from row_rd _ hi, Option.bind_some, hr i hi, wi64 (by omega)]
  cases y.getLsbD i with
  | true =>
   simp only [cond_true, if_true]
   rw [moved_up x hi, Option.bind_some, sum0, Option.bind_some]
  | false => simp
 ·simp only
  unfold ref01_Product_s0
  rw [show decide (((128 : Nat) : Int) < 128) = false from decide_eq_false (by omega), cond_false]
  have : r 128 = x * y := by simp only [r]; rw [Nat.mod_eq_of_lt y.isLt]; simp
  rw [this]

def bitLen (n : Nat) : Nat := if n = 0 then 0 else Nat.log2 n + 1

theorem ref01_Len_ok (x : BitVec 128) : ref01_Len (rowB x) = some (((bitLen x.toNat : Int), ()), ()) := by
 unfold ref01_Len
 have key := loop_down (f := fun (z : (Int × Unit) × ((List Bool) × Unit)) => ref01_Len_s0 z.1.1 z.2.1)
  (fun i => ((((i : Nat) : Int) - 1, ()), rowB x, ())) (fun i => i ≤ 128 ∧ x.toNat < 2 ^ i) (r := (((bitLen x.toNat : Int), ()), ())) ?_ ?_ 128 ⟨by omega, x.isLt⟩
 ·exact key
 ·intro i ⟨hi, hI⟩
  have hi' : i < 128 := by omega
  simp only
  unfold ref01_Len_s0
  rw [dpos, cond_true, pm, ck_nat hi', show rdI (rowB x) (i : Int) = some (x.getLsbD i) from row_rd _ hi', Option.bind_some]
  cases hb : x.getLsbD i with
  | true =>
   right
   rw [cond_true, wi64 (by omega)]
   have h2 : 2 ^ i ≤ x.toNat := Nat.ge_two_pow_of_testBit hb
   have h0 : x.toNat ≠ 0 := by have := Nat.two_pow_pos i; omega
   have : bitLen x.toNat = i + 1 := by
    unfold bitLen
    rw [if_neg h0]
    have := (Nat.log2_eq_iff h0).2 ⟨h2, hI⟩
    omega
   rw [this]
  | false =>
   left
   rw [cond_false, wi64d (by omega)]
   refine ⟨rfl, by omega, ?_⟩
   have h1 : x.toNat.testBit i = false := hb
   rw [Nat.testBit_eq_decide_div_mod_eq] at h1
   have h1 := of_decide_eq_false h1
   rw [Nat.pow_succ] at hI
   have h2 : x.toNat / 2 ^ i < 2 := Nat.div_lt_of_lt_mul (by omega)
   have h3 : x.toNat / 2 ^ i = 0 := by
    generalize x.toNat / 2 ^ i = e at h1 h2
    omega
   exact (Nat.div_eq_zero_iff_lt (Nat.two_pow_pos i)).1 h3
 ·intro ⟨_, hI⟩
  simp only
  unfold ref01_Len_s0
  have : x.toNat = 0 := by simpa using hI
  rw [dneg, cond_false, this]
  rfl

theorem wu64 {n : Nat} (h : n < 18446744073709551616) : IntKind.u64.wrap (n : Int) = n := wrap_u64 (by omega) (by omega)

def wd (hi lo : Nat) : BitVec 128 := BitVec.ofNat 128 (hi * 2 ^ 64 + lo)

theorem wd_bit {hi lo : Nat} (h2 : lo < 2 ^ 64) {i : Nat} (hi' : i < 128) : (wd hi lo).getLsbD i = if i < 64 then lo.testBit i else hi.testBit (i - 64) := by
 simp only [wd, BitVec.getLsbD_ofNat, hi', decide_true, Bool.true_and]
 rw [Nat.mul_comm, Nat.testBit_two_pow_mul_add _ h2]

theorem tmod2 (n i : Nat) : decide ((((n / 2 ^ i : Nat) : Int).tmod 2) = 1) = n.testBit i := by
 rw [Nat.testBit_eq_decide_div_mod_eq]
 generalize n / 2 ^ i = e
 have : (e : Int).tmod 2 = ((e % 2 : Nat) : Int) := by
  rw [Int.tmod_eq_emod_of_nonneg (by omega)]; rfl
 rw [this]
 by_cases h : e % 2 = 1
 ·rw [decide_eq_true h, decide_eq_true (by omega)]
 ·rw [decide_eq_false h, decide_eq_false (by omega)]

theorem tdiv2 {n : Nat} (h : n < 18446744073709551616) (i : Nat) : IntKind.u64.wrap (((n / 2 ^ i : Nat) : Int).tdiv 2) = ((n / 2 ^ (i + 1) : Nat) : Int) := by
 rw [Nat.pow_succ, ← Nat.div_div_eq_div_mul]
 have : n / 2 ^ i ≤ n := Nat.div_le_self _ _
 generalize n / 2 ^ i = e at *
 rw [Int.tdiv_eq_ediv_of_nonneg (by omega)]
 have h2 : ((e : Int) / 2) = ((e / 2 : Nat) : Int) := by omega
 rw [h2, wu64 (by omega)]

theorem ref01_Of_ok {hi lo : Nat} (h1 : hi < 18446744073709551616) (h2 : lo < 18446744073709551616) : ref01_Of (hi : Int) (lo : Int) = some ((rowB (wd hi lo), ()), ()) := by
 unfold ref01_Of
 let g : Nat → List Bool := fun i => row fun j => if j < 64 then decide (j < i) && lo.testBit j else decide (j - 64 < i) && hi.testBit (j - 64)
 have key := loop_up (f := fun (z : (Int × Int × Int × Unit) × ((List Bool) × (List Bool) × Unit)) => ref01_Of_s0 z.1.1 z.1.2.1 z.1.2.2.1 z.2.1 z.2.2.1)
  (fun i => ((((hi / 2 ^ i : Nat) : Int), ((lo / 2 ^ i : Nat) : Int), (i : Int), ()), List.replicate 128 false, g i, ())) 64 (r := ((rowB (wd hi lo), ()), ())) ?_ ?_ 0 (by omega)
 ·have h0 : g 0 = List.replicate 128 false := by rw [row_zero]; exact row_ext fun i _ => by simp
  simp only [h0, Nat.pow_zero, Nat.div_one] at key
  exact key
 ·intro i hi'
  simp only
  unfold ref01_Of_s0
  rw [show decide ((i : Int) < 64) = true from decide_eq_true (by omega), cond_true, ck_nat (show i < 128 by omega)]
  have hw : IntKind.i64.wrap ((i : Int) + 64) = ((i + 64 : Nat) : Int) := by rw [wrap_i64 (by omega) (by omega)]; omega
  simp only [g]
  rw [row_st _ (show i < 128 by omega), Option.bind_some]
  simp only [hw]
  rw [ck_nat (show i + 64 < 128 by omega), row_st _ (show i + 64 < 128 by omega), Option.bind_some, tdiv2 h1, tdiv2 h2, tmod2, tmod2, wi64 (by omega)]
  congr 5
  refine row_ext fun j hj => ?_
  by_cases e : j = i + 64
  ·subst e; simp
  ·rw [nbeq e]
   by_cases e2 : j = i
   ·subst e2; simp; omega
   ·rw [nbeq e2]
    simp only [cond_false]
    by_cases h64 : j < 64
    ·simp only [h64, if_true]
     congr 1
     by_cases hji : j < i
     ·simp [hji]; omega
     ·simp [hji]; omega
    ·simp only [h64, if_false]
     congr 1
     by_cases hji : j - 64 < i
     ·simp [hji]; omega
     ·simp [hji]; omega
 ·simp only
  unfold ref01_Of_s0
  rw [show decide (((64 : Nat) : Int) < 64) = false from decide_eq_false (by omega), cond_false]
  congr 4
  refine row_ext fun j hj => ?_
  rw [wd_bit h2 hj]
  by_cases h : j < 64
  ·simp [h]
  ·simp [h]; omega

theorem ref01_small_ok {n : Nat} (h : n < 1000000000) : ref01_small (n : Int) = some ((rowB (BitVec.ofNat 128 n), ()), ()) := by
 unfold ref01_small
 rw [wu64 (by omega), show (0 : Int) = ((0 : Nat) : Int) from rfl, ref01_Of_ok (by omega) (by omega), Option.bind_some]
 simp [wd]

theorem ref01_Halves_ok {hi lo : Nat} (h1 : hi < 18446744073709551616) (h2 : lo < 18446744073709551616) : ref01_Halves (rowB (wd hi lo)) = some (((hi : Int), (lo : Int), ()), ()) := by
 unfold ref01_Halves
 have hs : ∀ n i : Nat, n / 2 ^ i = 2 * (n / 2 ^ (i + 1)) + (if n.testBit i then 1 else 0) := by
  intro n i
  rw [Nat.testBit_eq_decide_div_mod_eq, Nat.pow_succ, ← Nat.div_div_eq_div_mul]
  have : n / 2 ^ i % 2 = 0 ∨ n / 2 ^ i % 2 = 1 := by omega
  rcases this with h | h <;> simp [h] <;> omega
 have hle : ∀ n i : Nat, n / 2 ^ i ≤ n := fun n i => Nat.div_le_self _ _
 have key := loop_down (f := fun (z : (Int × Int × Int × Unit) × ((List Bool) × Unit)) => ref01_Halves_s0 z.1.1 z.1.2.1 z.1.2.2.1 z.2.1)
  (fun i => ((((hi / 2 ^ i : Nat) : Int), ((lo / 2 ^ i : Nat) : Int), ((i : Nat) : Int) - 1, ()), rowB (wd hi lo), ())) (fun i => i ≤ 64) (r := (((hi : Int), (lo : Int), ()), ())) ?_ ?_ 64 (by omega)
 ·have e1 : hi / 2 ^ 64 = 0 := Nat.div_eq_of_lt (by omega)
  have e2 : lo / 2 ^ 64 = 0 := Nat.div_eq_of_lt (by omega)
  simp only [e1, e2] at key
  exact key
 ·intro i hi'
  left
  refine ⟨?_, by omega⟩
  simp only
  unfold ref01_Halves_s0
  rw [dpos, cond_true, pm]
  have hw : IntKind.i64.wrap ((i : Int) + 64) = ((i + 64 : Nat) : Int) := by rw [wrap_i64 (by omega) (by omega)]; omega
  have hb1 : rdI (rowB (wd hi lo)) ((i + 64 : Nat) : Int) = some (hi.testBit i) := by
   rw [show rdI (rowB (wd hi lo)) ((i + 64 : Nat) : Int) = some ((wd hi lo).getLsbD (i + 64)) from row_rd _ (by omega), wd_bit h2 (by omega), if_neg (by omega), Nat.add_sub_cancel]
  have hb2 : rdI (rowB (wd hi lo)) (i : Int) = some (lo.testBit i) := by
   rw [show rdI (rowB (wd hi lo)) (i : Int) = some ((wd hi lo).getLsbD i) from row_rd _ (by omega), wd_bit h2 (by omega), if_pos (by omega)]
  have q1 := hs hi i
  have q2 := hs lo i
  have l1 := hle hi i
  have l2 := hle lo i
  have m1 : IntKind.u64.wrap (2 * ((hi / 2 ^ (i + 1) : Nat) : Int)) = ((2 * (hi / 2 ^ (i + 1)) : Nat) : Int) := by
   rw [show (2 * ((hi / 2 ^ (i + 1) : Nat) : Int)) = ((2 * (hi / 2 ^ (i + 1)) : Nat) : Int) by omega, wu64 (by omega)]
  have m2 : IntKind.u64.wrap (2 * ((lo / 2 ^ (i + 1) : Nat) : Int)) = ((2 * (lo / 2 ^ (i + 1)) : Nat) : Int) := by
   rw [show (2 * ((lo / 2 ^ (i + 1) : Nat) : Int)) = ((2 * (lo / 2 ^ (i + 1)) : Nat) : Int) by omega, wu64 (by omega)]
  simp only [hw, m1, m2]
  simp only [ck_nat (show i + 64 < 128 by omega), ck_nat (show i < 128 by omega), hb1, hb2, wi64d (show i < 1000000000 by omega), Option.bind_some]
  generalize hi / 2 ^ i = a at *
  generalize lo / 2 ^ i = b at *
  generalize hi / 2 ^ (i + 1) = c at *
  generalize lo / 2 ^ (i + 1) = d at *
  clear hb1 hb2 hs hle
  generalize hi.testBit i = p at *
  generalize lo.testBit i = q at *
  cases p <;> cases q <;> simp only [cond_true, cond_false, if_true, if_false, Bool.false_eq_true, Nat.add_zero] at q1 q2 ⊢
  ·rw [q1, q2]
  ·rw [show ((2 * d : Nat) : Int) + 1 = ((b : Nat) : Int) by omega, wu64 (by omega), q1]
  ·rw [show ((2 * c : Nat) : Int) + 1 = ((a : Nat) : Int) by omega, wu64 (by omega), q2]
  ·rw [show ((2 * c : Nat) : Int) + 1 = ((a : Nat) : Int) by omega, wu64 (by omega), show ((2 * d : Nat) : Int) + 1 = ((b : Nat) : Int) by omega, wu64 (by omega)]
 ·intro _
  simp only
  unfold ref01_Halves_s0
  rw [dneg, cond_false]
  simp

end Go.L

namespace Go.L
open Go Go.Pv
set_option maxRecDepth 100000

theorem part_step {A d b : Nat} (hd : 0 < d) (hb : b ≤ 1) : (2 * A + b) / d = 2 * (A / d) + (if 2 * (A % d) + b < d then 0 else 1) ∧ (2 * A + b) % d = if 2 * (A % d) + b < d then 2 * (A % d) + b else 2 * (A % d) + b - d := by
 have h1 := Nat.div_add_mod A d
 have h2 := Nat.mod_lt A hd
 generalize A / d = Q at *
 generalize A % d = L at *
 by_cases h : 2 * L + b < d
 ·rw [if_pos h, if_pos h]
  have := (Nat.div_mod_unique (a := 2 * A + b) (c := 2 * L + b) (d := 2 * Q) hd).2 ⟨by rw [← h1, Nat.mul_left_comm]; omega, h⟩
  exact this
 ·rw [if_neg h, if_neg h]
  have := (Nat.div_mod_unique (a := 2 * A + b) (c := 2 * L + b - d) (d := 2 * Q + 1) hd).2 ⟨by rw [← h1, Nat.mul_add d (2 * Q) 1, Nat.mul_one, Nat.mul_left_comm]; omega, by omega⟩
  exact this

theorem bit_cons (L b j : Nat) (hb : b ≤ 1) : (2 * L + b).testBit j = if j = 0 then decide (b = 1) else L.testBit (j - 1) := by
 have := Nat.testBit_two_pow_mul_add L (i := 1) (b := b) (by omega) j
 rw [show 2 ^ 1 * L + b = 2 * L + b by omega] at this
 rw [this]
 by_cases h : j = 0
 ·subst h
  have : b = 0 ∨ b = 1 := by omega
  rcases this with rfl | rfl <;> simp
 ·rw [if_neg (by omega), if_neg h]

theorem bit_set (m i j : Nat) : (m * 2 ^ (i + 1) + 2 ^ i).testBit j = if j = i then true else (m * 2 ^ (i + 1)).testBit j := by
 have h1 := Nat.testBit_two_pow_mul_add m (i := i + 1) (b := 2 ^ i) (Nat.pow_lt_pow_right (by omega) (by omega)) j
 rw [Nat.mul_comm] at h1
 rw [h1, Nat.mul_comm m, Nat.testBit_two_pow_mul]
 by_cases e : j = i
 ·subst e
  rw [if_pos (by omega), if_pos rfl, Nat.testBit_two_pow]
  simp
 ·rw [if_neg e]
  by_cases h : j < i + 1
  ·rw [if_pos h, Nat.testBit_two_pow, decide_eq_false (show ¬ i = j by omega), decide_eq_false (show ¬ j ≥ i + 1 by omega)]
   rfl
  ·rw [if_neg h, decide_eq_true (show j ≥ i + 1 by omega)]
   rfl

theorem ref01_Part_ok (a d : BitVec 128) (hd : 0 < d.toNat) : ref01_Part (rowB a) (rowB d) = some ((rowB (BitVec.ofNat 128 (a.toNat / d.toNat)), rowB (BitVec.ofNat 128 (a.toNat % d.toNat)), ()), ()) := by
 unfold ref01_Part
 have ha := a.isLt
 have hdl := d.isLt
 have hfun : ∀ z : (Int × Unit) × ((List Bool) × (List Bool) × (List Bool) × (List Bool) × (List Bool) × (List Bool) × Unit), ref01_Part_s0 z.1.1 z.2.1 z.2.2.1 z.2.2.2.1 z.2.2.2.2.1 z.2.2.2.2.2.1 z.2.2.2.2.2.2.1 = ref01_Part_s0 z.1.1 z.2.1 z.2.2.1 z.2.2.2.1 z.2.2.2.2.1 z.2.2.2.2.2.1 z.2.2.2.2.2.2.1 := fun _ => rfl
 have key := loop_down (f := fun (z : (Int × Unit) × ((List Bool) × (List Bool) × (List Bool) × (List Bool) × (List Bool) × (List Bool) × Unit)) => ref01_Part_s0 z.1.1 z.2.1 z.2.2.1 z.2.2.2.1 z.2.2.2.2.1 z.2.2.2.2.2.1 z.2.2.2.2.2.2.1)
  (fun i => ((((i : Nat) : Int) - 1, ()), rowB a, rowB d, List.replicate 128 false, List.replicate 128 false, rowB (BitVec.ofNat 128 (a.toNat / 2 ^ i / d.toNat * 2 ^ i)), rowB (BitVec.ofNat 128 (a.toNat / 2 ^ i % d.toNat)), ())) (fun i => i ≤ 128)
  (r := ((rowB (BitVec.ofNat 128 (a.toNat / d.toNat)), rowB (BitVec.ofNat 128 (a.toNat % d.toNat)), ()), ())) ?_ ?_ 128 (by omega)
 ·have h0 : a.toNat / 2 ^ 128 = 0 := Nat.div_eq_of_lt ha
  have hz : rowB (BitVec.ofNat 128 0) = List.replicate 128 false := by rw [row_zero]; exact row_ext fun i _ => by simp
  simp only [h0, Nat.zero_div, Nat.zero_mod, Nat.zero_mul, hz] at key
  exact key
 ·intro i hi
  left
  refine ⟨?_, by omega⟩
  have hi' : i < 128 := by omega
  simp only
  unfold ref01_Part_s0
  rw [dpos, cond_true, pm]
  have hA : a.toNat / 2 ^ i = 2 * (a.toNat / 2 ^ (i + 1)) + (if a.toNat.testBit i then 1 else 0) := by
   rw [Nat.testBit_eq_decide_div_mod_eq, Nat.pow_succ, ← Nat.div_div_eq_div_mul]
   have : a.toNat / 2 ^ i % 2 = 0 ∨ a.toNat / 2 ^ i % 2 = 1 := by omega
   rcases this with h | h <;> simp [h] <;> omega
  obtain ⟨b, hb1, hb2, hb3⟩ : ∃ b : Nat, b ≤ 1 ∧ (if a.toNat.testBit i then 1 else 0) = b ∧ a.toNat.testBit i = decide (b = 1) := by
   cases a.toNat.testBit i
   ·exact ⟨0, by omega, rfl, rfl⟩
   ·exact ⟨1, by omega, rfl, rfl⟩
  rw [hb2] at hA
  have hle : a.toNat / 2 ^ i / d.toNat * 2 ^ i ≤ a.toNat := Nat.le_trans (Nat.mul_le_mul_right _ (Nat.div_le_self _ _)) (Nat.div_mul_le_self _ _)
  obtain ⟨s1, s2⟩ := part_step (A := a.toNat / 2 ^ (i + 1)) hd hb1
  rw [← hA] at s1 s2
  have hLd := Nat.mod_lt (a.toNat / 2 ^ (i + 1)) hd
  generalize hL : a.toNat / 2 ^ (i + 1) % d.toNat = L at *
  generalize hQ : a.toNat / 2 ^ (i + 1) / d.toNat = Q at *

  have hrd : rdI (rowB a) (i : Int) = some (decide (b = 1)) := by rw [← hb3]; exact row_rd _ hi'
  have h127 : rdI (rowB (BitVec.ofNat 128 L)) (127 : Int) = some (decide (2 ^ 127 ≤ L)) := by
   have := row_rd (BitVec.ofNat 128 L).getLsbD (i := 127) (by omega)
   rw [show ((127 : Nat) : Int) = 127 from rfl] at this
   rw [show rdI (rowB (BitVec.ofNat 128 L)) (127 : Int) = _ from this]
   congr 1
   simp only [BitVec.getLsbD_ofNat, Nat.lt_irrefl, decide_true, Bool.true_and, show (127 : Nat) < 128 from by omega]
   rw [Nat.testBit_eq_decide_div_mod_eq]
   have h2 : L / 2 ^ 127 < 2 := Nat.div_lt_of_lt_mul (by omega)
   by_cases h : 2 ^ 127 ≤ L
   ·rw [decide_eq_true h]
    have : 1 ≤ L / 2 ^ 127 := (Nat.le_div_iff_mul_le (by omega)).2 (by omega)
    exact decide_eq_true (by omega)
   ·rw [decide_eq_false h, Nat.div_eq_of_lt (by omega)]
    rfl
  have hck : (Option.map (fun _ => (127 : Int)) (ckI 127 128)) = some 127 := by decide
  have hck0 : (Option.map (fun _ => (0 : Int)) (ckI 0 128)) = some 0 := by decide
  have hst : stI (rowB (BitVec.ofNat 128 L <<< 1)) (0 : Int) (decide (b = 1)) = some (rowB (BitVec.ofNat 128 (2 * L + b))) := by
   have := row_st (BitVec.ofNat 128 L <<< 1).getLsbD (i := 0) (by omega) (decide (b = 1))
   rw [show ((0 : Nat) : Int) = 0 from rfl] at this
   rw [show stI (rowB (BitVec.ofNat 128 L <<< 1)) (0 : Int) (decide (b = 1)) = _ from this]
   congr 1
   refine row_ext fun j hj => ?_
   rw [BitVec.getLsbD_ofNat, bit_cons L b j hb1]
   by_cases e : j = 0
   ·subst e; simp
   ·rw [nbeq e, if_neg e, cond_false, BitVec.getLsbD_shiftLeft, BitVec.getLsbD_ofNat]
    have h1 : ¬ j < 1 := by omega
    have h2 : j - 1 < 128 := by omega
    simp [hj, h1, h2]
  have hm1 : ref01_Moved (rowB (BitVec.ofNat 128 L)) (1 : Int) = some ((rowB (BitVec.ofNat 128 L <<< 1), ()), ()) := moved_up (n := 1) _ (by omega)
  rw [hck, Option.bind_some, h127, Option.bind_some, hm1, Option.bind_some, ck_nat hi', hrd, Option.bind_some, hck0, Option.bind_some, hst, Option.bind_some]
  have hless : ref01_Less (rowB (BitVec.ofNat 128 (2 * L + b))) (rowB d) = some ((decide ((2 * L + b) % 2 ^ 128 < d.toNat), ()), ()) := by
   rw [ref01_Less_ok, BitVec.toNat_ofNat]
  have hdiv : ¬ 2 * L + b < d.toNat → (ref01_Minus (rowB (BitVec.ofNat 128 (2 * L + b))) (rowB d)).bind (fun r_13 => (stI (rowB (BitVec.ofNat 128 (Q * 2 ^ (i + 1)))) (i : Int) true).bind fun v_15 =>
    (some (.inl (((IntKind.i64.wrap ((i : Int) - 1)), ()), rowB a, rowB d, List.replicate 128 false, List.replicate 128 false, v_15, r_13.1.1, ())) : Option (((Int × Unit) × ((List Bool) × (List Bool) × (List Bool) × (List Bool) × (List Bool) × (List Bool) × Unit)) ⊕ (((List Bool) × (List Bool) × Unit) × (Unit))))) =
    some (.inl (((i : Int) - 1, ()), rowB a, rowB d, List.replicate 128 false, List.replicate 128 false, rowB (BitVec.ofNat 128 (a.toNat / 2 ^ i / d.toNat * 2 ^ i)), rowB (BitVec.ofNat 128 (a.toNat / 2 ^ i % d.toNat)), ())) := by
   intro hge
   rw [if_neg hge] at s1 s2
   have e1 : BitVec.ofNat 128 (2 * L + b) - d = BitVec.ofNat 128 (2 * L + b - d.toNat) := by
    apply BitVec.eq_of_toNat_eq
    rw [BitVec.toNat_sub, BitVec.toNat_ofNat, BitVec.toNat_ofNat]
    omega
   have e2 : stI (rowB (BitVec.ofNat 128 (Q * 2 ^ (i + 1)))) (i : Int) true = some (rowB (BitVec.ofNat 128 ((2 * Q + 1) * 2 ^ i))) := by
    rw [show stI (rowB (BitVec.ofNat 128 (Q * 2 ^ (i + 1)))) (i : Int) true = _ from row_st _ hi' true]
    congr 1
    refine row_ext fun j hj => ?_
    rw [show (2 * Q + 1) * 2 ^ i = Q * 2 ^ (i + 1) + 2 ^ i by rw [Nat.pow_succ, Nat.add_mul, Nat.one_mul, Nat.mul_comm 2 Q, Nat.mul_assoc, Nat.mul_comm 2]]
    rw [BitVec.getLsbD_ofNat, BitVec.getLsbD_ofNat, bit_set]
    by_cases e : j = i
    ·subst e; simp [hj]
    ·rw [nbeq e, if_neg e]; rfl
   rw [ref01_Minus_ok, Option.bind_some, e2, Option.bind_some, e1, s1, s2, wi64d (by omega)]
  have hkeep : 2 * L + b < d.toNat → BitVec.ofNat 128 (Q * 2 ^ (i + 1)) = BitVec.ofNat 128 (a.toNat / 2 ^ i / d.toNat * 2 ^ i) ∧ BitVec.ofNat 128 (2 * L + b) = BitVec.ofNat 128 (a.toNat / 2 ^ i % d.toNat) := by
   intro hlt
   rw [if_pos hlt] at s1 s2
   rw [s1, s2, Nat.pow_succ, Nat.mul_comm (2 ^ i) 2, ← Nat.mul_assoc, Nat.mul_comm Q 2]
   exact ⟨rfl, rfl⟩
  simp only [gsome]
  by_cases hov : 2 ^ 127 ≤ L
  ·
   simp only [decide_eq_true hov, Bool.not_true, cond_false, gfalse, cond_true, ck_nat hi']
   exact hdiv (by omega)
  ·simp only [decide_eq_false hov, Bool.not_false, cond_true, gtrue, cond_false, hless, Option.bind_some, ck_nat hi']
   rw [Nat.mod_eq_of_lt (show 2 * L + b < 2 ^ 128 by omega)]
   by_cases hlt : 2 * L + b < d.toNat
   ·obtain ⟨k1, k2⟩ := hkeep hlt
    rw [decide_eq_true hlt, Bool.not_true, cond_false, k1, k2, wi64d (by omega)]
   ·rw [decide_eq_false hlt, Bool.not_false, cond_true]
    exact hdiv hlt
 ·intro _
  simp only
  unfold ref01_Part_s0
  rw [dneg, cond_false]
  simp

def wp (w : Nat) : Int × Int × Unit := (((w / 18446744073709551616 : Nat) : Int), ((w % 18446744073709551616 : Nat) : Int), ())

theorem wp_inj {a b : Nat} (h : wp a = wp b) : a = b := by
 unfold wp at h
 simp only [Prod.mk.injEq, and_true] at h
 omega

theorem of_wp {w : Nat} (h : w < 340282366920938463463374607431768211456) : ref01_Of (wp w).1 (wp w).2.1 = some ((rowB (BitVec.ofNat 128 w), ()), ()) := by
 unfold wp
 simp only
 rw [ref01_Of_ok (by omega) (by omega)]
 unfold wd
 rw [show (2 : Nat) ^ 64 = 18446744073709551616 from by decide, show w / 18446744073709551616 * 18446744073709551616 + w % 18446744073709551616 = w by omega]

theorem bits_Add64_eq : bits_Add64 = add64F := rfl
theorem bits_Sub64_eq : bits_Sub64 = sub64F := rfl

theorem word_Add_ok {a b : Nat} (ha : a < 340282366920938463463374607431768211456) (hb : b < 340282366920938463463374607431768211456) :
  word_Add (wp a) (wp b) = some ((wp ((a + b) % 340282366920938463463374607431768211456), decide (340282366920938463463374607431768211456 ≤ a + b), ()), ()) := by
 unfold word_Add wp
 simp only [bits_Add64_eq, add64F]
 rw [if_pos (by omega), Option.bind_some]
 simp only
 rw [if_pos (by omega), Option.bind_some]
 dsimp only
 congr 3
 ·congr 1
  ·omega
  ·congr 1; omega
 ·congr 1
  by_cases h : 340282366920938463463374607431768211456 ≤ a + b
  ·rw [decide_eq_true h, decide_eq_true (by omega)]
  ·rw [decide_eq_false h, decide_eq_false (by omega)]

theorem word_Sub_ok {a b : Nat} (ha : a < 340282366920938463463374607431768211456) (hb : b < 340282366920938463463374607431768211456) :
  word_Sub (wp a) (wp b) = some ((wp ((a + (340282366920938463463374607431768211456 - b)) % 340282366920938463463374607431768211456), decide (a < b), ()), ()) := by
 unfold word_Sub wp
 simp only [bits_Sub64_eq, sub64F]
 rw [if_pos (by omega), Option.bind_some]
 simp only
 by_cases hlo : ((a % 18446744073709551616 : Nat) : Int) < ((b % 18446744073709551616 : Nat) : Int) + 0
 ·rw [if_pos hlo, if_pos (by omega), Option.bind_some]
  dsimp only
  congr 3
  ·congr 1
   ·omega
   ·congr 1; omega
  ·congr 1
   by_cases h : a < b
   ·rw [decide_eq_true h, decide_eq_true (by split <;> omega)]
   ·rw [decide_eq_false h, decide_eq_false (by split <;> omega)]
 ·rw [if_neg hlo, if_pos (by omega), Option.bind_some]
  dsimp only
  congr 3
  ·congr 1
   ·omega
   ·congr 1; omega
  ·congr 1
   by_cases h : a < b
   ·rw [decide_eq_true h, decide_eq_true (by split <;> omega)]
   ·rw [decide_eq_false h, decide_eq_false (by split <;> omega)]

end Go.L

namespace Go.L
open Go Go.Pv
set_option maxRecDepth 100000

theorem loop_meas {σ ρ : Type} {f : σ → Option (σ ⊕ ρ)} (I : σ → Prop) (μ : σ → Nat) {r : ρ} (step : ∀ x, I x → f x = some (.inr r) ∨ ∃ y, f x = some (.inl y) ∧ I y ∧ μ y < μ x) {x : σ} (h : I x) : loopR f x = some r := by
 obtain ⟨r', h1, rfl⟩ := loopR_inv I μ (fun r' => r' = r) (fun x hx => (step x hx).imp (fun h => ⟨r, h, rfl⟩) id) h
 exact h1

theorem wrapu (n : Int) : IntKind.u64.wrap n = n % 18446744073709551616 := by
 simp only [IntKind.wrap, IntKind.signed, IntKind.bits]
 simp

theorem and_mask {n : Nat} (h1 : n < 18446744073709551616) : bitsI .and .u64 (n : Int) 4294967295 = ((n % 4294967296 : Nat) : Int) := by
 have key : (BitVec.ofInt 64 (n : Int) &&& BitVec.ofInt 64 4294967295).toNat = n % 4294967296 := by
  rw [BitVec.toNat_and, BitVec.ofInt_natCast, BitVec.toNat_ofNat]
  have e2 : (BitVec.ofInt 64 4294967295).toNat = 2 ^ 32 - 1 := by decide
  rw [e2, Nat.mod_eq_of_lt (show n < 2 ^ 64 by omega), Nat.and_two_pow_sub_one_eq_mod]
 show IntKind.u64.wrap ((BitVec.ofInt 64 (n : Int) &&& BitVec.ofInt 64 4294967295).toNat : Int) = _
 rw [key, wu64 (by omega)]

theorem fdiv_pow (n k : Nat) : ((n : Int).fdiv (2 ^ k)) = ((n / 2 ^ k : Nat) : Int) := by
 rw [Int.fdiv_eq_ediv_of_nonneg _ (Int.le_of_lt (Int.pow_pos (by decide)))]
 simp

theorem shr_ok {n k : Nat} : shrI .u64 (n : Int) (k : Int) = some (((n / 2 ^ min k 64 : Nat) : Int)) := by
 unfold shrI
 rw [if_neg (by omega), Int.toNat_natCast]
 show some ((n : Int).fdiv (2 ^ (min k 64))) = _
 rw [fdiv_pow]

theorem shl_ok {n k : Nat} : shlI .u64 (n : Int) (k : Int) = some (((n * 2 ^ min k 64 % 18446744073709551616 : Nat) : Int)) := by
 unfold shlI
 rw [if_neg (by omega), Int.toNat_natCast]
 show some (IntKind.u64.wrap ((n : Int) * 2 ^ (min k 64))) = _
 rw [wrapu]
 congr 1

theorem mul64_nat (x y : Nat) : x * y = (x / 4294967296) * (y / 4294967296) * 18446744073709551616 + ((x / 4294967296) * (y % 4294967296) + (x % 4294967296) * (y / 4294967296)) * 4294967296 + (x % 4294967296) * (y % 4294967296) := by
 have h1 : x = 4294967296 * (x / 4294967296) + x % 4294967296 := by omega
 have h2 : y = 4294967296 * (y / 4294967296) + y % 4294967296 := by omega
 generalize x / 4294967296 = a at *
 generalize x % 4294967296 = b at *
 generalize y / 4294967296 = c at *
 generalize y % 4294967296 = d at *
 subst h1; subst h2
 rw [Nat.add_mul, Nat.mul_add, Nat.mul_add, Nat.mul_mul_mul_comm, Nat.mul_assoc 4294967296 a d, Nat.mul_left_comm b 4294967296 c]
 omega

theorem bits_Mul64_ok {x y : Nat} (hx : x < 18446744073709551616) (hy : y < 18446744073709551616) :
  bits_Mul64 (x : Int) (y : Int) = some ((((x * y / 18446744073709551616 : Nat) : Int), ((x * y % 18446744073709551616 : Nat) : Int), ()), ()) := by
 unfold bits_Mul64
 have key := mul64_nat x y
 have b1 : x / 4294967296 ≤ 4294967295 := by omega
 have b2 : x % 4294967296 ≤ 4294967295 := by omega
 have b3 : y / 4294967296 ≤ 4294967295 := by omega
 have b4 : y % 4294967296 ≤ 4294967295 := by omega
 simp only [and_mask hx, and_mask hy]
 rw [show (x : Int).fdiv (2 ^ 32) = ((x / 4294967296 : Nat) : Int) from fdiv_pow x 32, show (y : Int).fdiv (2 ^ 32) = ((y / 4294967296 : Nat) : Int) from fdiv_pow y 32]
 have m1 := Nat.mul_le_mul b1 b3
 have m2 := Nat.mul_le_mul b1 b4
 have m3 := Nat.mul_le_mul b2 b3
 have m4 := Nat.mul_le_mul b2 b4
 have e1 : ((x / 4294967296 : Nat) : Int) * ((y / 4294967296 : Nat) : Int) = (((x / 4294967296) * (y / 4294967296) : Nat) : Int) := by simp
 have e2 : ((x / 4294967296 : Nat) : Int) * ((y % 4294967296 : Nat) : Int) = (((x / 4294967296) * (y % 4294967296) : Nat) : Int) := by simp
 have e3 : ((x % 4294967296 : Nat) : Int) * ((y / 4294967296 : Nat) : Int) = (((x % 4294967296) * (y / 4294967296) : Nat) : Int) := by simp
 have e4 : ((x % 4294967296 : Nat) : Int) * ((y % 4294967296 : Nat) : Int) = (((x % 4294967296) * (y % 4294967296) : Nat) : Int) := by simp
 have e5 : (x : Int) * (y : Int) = ((x * y : Nat) : Int) := by simp
 rw [e1, e2, e3, e4, e5, key]
 generalize (x / 4294967296) * (y / 4294967296) = p at *
 generalize (x / 4294967296) * (y % 4294967296) = q at *
 generalize (x % 4294967296) * (y / 4294967296) = r at *
 generalize (x % 4294967296) * (y % 4294967296) = s at *
 clear e1 e2 e3 e4 e5 key
 rw [wu64 (n := q) (by omega), wu64 (n := s) (by omega), wu64 (n := p) (by omega), wu64 (n := r) (by omega)]
 rw [show (s : Int).fdiv (2 ^ 32) = ((s / 4294967296 : Nat) : Int) from fdiv_pow s 32]
 rw [show (q : Int) + ((s / 4294967296 : Nat) : Int) = ((q + s / 4294967296 : Nat) : Int) by simp, wu64 (by omega)]
 rw [and_mask (n := q + s / 4294967296) (by omega), show ((q + s / 4294967296 : Nat) : Int).fdiv (2 ^ 32) = (((q + s / 4294967296) / 4294967296 : Nat) : Int) from fdiv_pow _ 32]
 rw [show (((q + s / 4294967296) % 4294967296 : Nat) : Int) + (r : Int) = (((q + s / 4294967296) % 4294967296 + r : Nat) : Int) by simp, wu64 (by omega)]
 rw [show (((q + s / 4294967296) % 4294967296 + r : Nat) : Int).fdiv (2 ^ 32) = ((((q + s / 4294967296) % 4294967296 + r) / 4294967296 : Nat) : Int) from fdiv_pow _ 32]
 rw [wrapu, wrapu, wrapu]
 congr 3
 omega

theorem word_Mul_ok {a b : Nat} (ha : a < 340282366920938463463374607431768211456) (hb : b < 340282366920938463463374607431768211456) :
  word_Mul (wp a) (wp b) = some ((wp (a * b % 340282366920938463463374607431768211456), ()), ()) := by
 unfold word_Mul
 have key : a * b = (a / 18446744073709551616) * (b / 18446744073709551616) * 340282366920938463463374607431768211456 + ((a / 18446744073709551616) * (b % 18446744073709551616) + (a % 18446744073709551616) * (b / 18446744073709551616)) * 18446744073709551616 + (a % 18446744073709551616) * (b % 18446744073709551616) := by
  have h1 : a = 18446744073709551616 * (a / 18446744073709551616) + a % 18446744073709551616 := by omega
  have h2 : b = 18446744073709551616 * (b / 18446744073709551616) + b % 18446744073709551616 := by omega
  generalize a / 18446744073709551616 = p at *
  generalize a % 18446744073709551616 = q at *
  generalize b / 18446744073709551616 = c at *
  generalize b % 18446744073709551616 = d at *
  subst h1; subst h2
  rw [Nat.add_mul, Nat.mul_add, Nat.mul_add, Nat.mul_mul_mul_comm, Nat.mul_assoc 18446744073709551616 p d, Nat.mul_left_comm q 18446744073709551616 c]
  omega
 unfold wp
 simp only
 rw [bits_Mul64_ok (by omega) (by omega), Option.bind_some]
 simp only
 have e2 : ((a / 18446744073709551616 : Nat) : Int) * ((b % 18446744073709551616 : Nat) : Int) = (((a / 18446744073709551616) * (b % 18446744073709551616) : Nat) : Int) := by simp
 have e3 : ((a % 18446744073709551616 : Nat) : Int) * ((b / 18446744073709551616 : Nat) : Int) = (((a % 18446744073709551616) * (b / 18446744073709551616) : Nat) : Int) := by simp
 rw [e2, e3, key]
 generalize (a / 18446744073709551616) * (b / 18446744073709551616) = p at *
 generalize (a / 18446744073709551616) * (b % 18446744073709551616) = q at *
 generalize (a % 18446744073709551616) * (b / 18446744073709551616) = r at *
 generalize (a % 18446744073709551616) * (b % 18446744073709551616) = s at *
 rw [wrapu, wrapu, wrapu, wrapu]
 refine congrArg some (Prod.ext (Prod.ext (Prod.ext ?_ (Prod.ext ?_ rfl)) rfl) rfl)
 ·dsimp only; omega
 ·dsimp only; omega

theorem knuth {u c y1 y0 q rh : Nat} (hc : c < 4294967296) (hy1 : 2147483648 ≤ y1) (hy0 : y0 < 4294967296) (hu : u < y1 * 4294967296 + y0) (hq : q ≤ 4294967297) (hI : q * y1 + rh = u) (hQ : (u * 4294967296 + c) / (y1 * 4294967296 + y0) ≤ q) :
  (q < 4294967296 ∧ q * y0 ≤ 4294967296 * rh + c → q = (u * 4294967296 + c) / (y1 * 4294967296 + y0)) ∧
  ((4294967296 ≤ q ∨ 4294967296 * rh + c < q * y0) → 0 < q ∧ (u * 4294967296 + c) / (y1 * 4294967296 + y0) ≤ q - 1 ∧ (q - 1) * y1 + (rh + y1) = u ∧ (4294967296 ≤ rh + y1 → q - 1 = (u * 4294967296 + c) / (y1 * 4294967296 + y0))) := by
 have hy : 0 < y1 * 4294967296 + y0 := by omega
 have hqy : q * (y1 * 4294967296 + y0) = q * y1 * 4294967296 + q * y0 := by rw [Nat.mul_add, Nat.mul_assoc]
 generalize hQd : (u * 4294967296 + c) / (y1 * 4294967296 + y0) = Q at *
 have hlt : ∀ q', (u * 4294967296 + c) < q' * (y1 * 4294967296 + y0) → Q < q' := fun q' h => by rw [← hQd]; exact (Nat.div_lt_iff_lt_mul hy).2 h
 have hle : ∀ q', q' * (y1 * 4294967296 + y0) ≤ u * 4294967296 + c → q' ≤ Q := fun q' h => by rw [← hQd]; exact (Nat.le_div_iff_mul_le hy).2 h
 have hQB : Q < 4294967296 := hlt _ (by omega)
 refine ⟨fun ⟨h1, h2⟩ => ?_, fun h => ?_⟩
 ·have := hle q (by rw [hqy]; omega)
  omega
 ·have hgt : Q < q := by
   rcases h with h | h
   ·omega
   ·exact hlt q (by rw [hqy]; omega)
  have h1 : q * y1 = (q - 1) * y1 + y1 := by
   obtain ⟨m, rfl⟩ : ∃ m, q = m + 1 := ⟨q - 1, by omega⟩
   rw [Nat.add_mul, Nat.one_mul]; rfl
  refine ⟨by omega, by omega, by omega, fun hr => ?_⟩
  have h2 : (q - 1) * y0 ≤ 4294967296 * 4294967295 := Nat.mul_le_mul (by omega) (by omega)
  have := hle (q - 1) (by rw [Nat.mul_add, ← Nat.mul_assoc]; omega)
  omega

theorem bitLen_of {n L : Nat} (h1 : n < 2 ^ L) (h2 : L = 0 ∨ 2 ^ (L - 1) ≤ n) : bitLen n = L := by
 unfold bitLen
 by_cases h : n = 0
 ·subst h
  rcases h2 with rfl | h2
  ·rfl
  ·have := Nat.two_pow_pos (L - 1); omega
 ·rw [if_neg h]
  have hL : L ≠ 0 := by rintro rfl; simp at h1; exact h h1
  have := (Nat.log2_eq_iff (k := L - 1) h).2 ⟨h2.resolve_left hL, by rw [Nat.sub_add_cancel (by omega)]; exact h1⟩
  omega

theorem bitLen_spec (n : Nat) : n < 2 ^ bitLen n ∧ (bitLen n = 0 ∨ 2 ^ (bitLen n - 1) ≤ n) := by
 unfold bitLen
 by_cases h : n = 0
 ·subst h; simp
 ·rw [if_neg h]
  have := (Nat.log2_eq_iff (k := Nat.log2 n) h).1 rfl
  exact ⟨this.2, .inr this.1⟩

theorem bitLen_shift {n k : Nat} (h : 2 ^ k ≤ n) : bitLen n = k + bitLen (n / 2 ^ k) := by
 obtain ⟨h1, h2⟩ := bitLen_spec (n / 2 ^ k)
 have hp := Nat.two_pow_pos k
 have h0 : 1 ≤ n / 2 ^ k := (Nat.le_div_iff_mul_le hp).2 (by omega)
 refine bitLen_of ?_ (.inr ?_)
 ·rw [Nat.pow_add, Nat.mul_comm]
  exact (Nat.div_lt_iff_lt_mul hp).1 h1
 ·rcases h2 with h2 | h2
  ·rw [h2] at h1; omega
  ·have hb : bitLen (n / 2 ^ k) ≠ 0 := fun e => by rw [e] at h1; omega
   rw [show k + bitLen (n / 2 ^ k) - 1 = (bitLen (n / 2 ^ k) - 1) + k by omega, Nat.pow_add]
   exact (Nat.le_div_iff_mul_le hp).1 h2

theorem tab_ok : ∀ n : Nat, n < 256 → rdI [0, 1, 2, 2, 3, 3, 3, 3, 4, 4, 4, 4, 4, 4, 4, 4, 5, 5, 5, 5, 5, 5, 5, 5, 5, 5, 5, 5, 5, 5, 5, 5, 6, 6, 6, 6, 6, 6, 6, 6, 6, 6, 6, 6, 6, 6, 6, 6, 6, 6, 6, 6, 6, 6, 6, 6, 6, 6, 6, 6, 6, 6, 6, 6, 7, 7, 7, 7, 7, 7, 7, 7, 7, 7, 7, 7, 7, 7, 7, 7, 7, 7, 7, 7, 7, 7, 7, 7, 7, 7, 7, 7, 7, 7, 7, 7, 7, 7, 7, 7, 7, 7, 7, 7, 7, 7, 7, 7, 7, 7, 7, 7, 7, 7, 7, 7, 7, 7, 7, 7, 7, 7, 7, 7, 7, 7, 7, 7, 8, 8, 8, 8, 8, 8, 8, 8, 8, 8, 8, 8, 8, 8, 8, 8, 8, 8, 8, 8, 8, 8, 8, 8, 8, 8, 8, 8, 8, 8, 8, 8, 8, 8, 8, 8, 8, 8, 8, 8, 8, 8, 8, 8, 8, 8, 8, 8, 8, 8, 8, 8, 8, 8, 8, 8, 8, 8, 8, 8, 8, 8, 8, 8, 8, 8, 8, 8, 8, 8, 8, 8, 8, 8, 8, 8, 8, 8, 8, 8, 8, 8, 8, 8, 8, 8, 8, 8, 8, 8, 8, 8, 8, 8, 8, 8, 8, 8, 8, 8, 8, 8, 8, 8, 8, 8, 8, 8, 8, 8, 8, 8, 8, 8, 8, 8, 8, 8, 8, 8, 8, 8, 8, 8, 8, 8, 8, 8] (n : Int) = some (bitLen n : Int) := by
 have h : ∀ n : Fin 256, rdI [0, 1, 2, 2, 3, 3, 3, 3, 4, 4, 4, 4, 4, 4, 4, 4, 5, 5, 5, 5, 5, 5, 5, 5, 5, 5, 5, 5, 5, 5, 5, 5, 6, 6, 6, 6, 6, 6, 6, 6, 6, 6, 6, 6, 6, 6, 6, 6, 6, 6, 6, 6, 6, 6, 6, 6, 6, 6, 6, 6, 6, 6, 6, 6, 7, 7, 7, 7, 7, 7, 7, 7, 7, 7, 7, 7, 7, 7, 7, 7, 7, 7, 7, 7, 7, 7, 7, 7, 7, 7, 7, 7, 7, 7, 7, 7, 7, 7, 7, 7, 7, 7, 7, 7, 7, 7, 7, 7, 7, 7, 7, 7, 7, 7, 7, 7, 7, 7, 7, 7, 7, 7, 7, 7, 7, 7, 7, 7, 8, 8, 8, 8, 8, 8, 8, 8, 8, 8, 8, 8, 8, 8, 8, 8, 8, 8, 8, 8, 8, 8, 8, 8, 8, 8, 8, 8, 8, 8, 8, 8, 8, 8, 8, 8, 8, 8, 8, 8, 8, 8, 8, 8, 8, 8, 8, 8, 8, 8, 8, 8, 8, 8, 8, 8, 8, 8, 8, 8, 8, 8, 8, 8, 8, 8, 8, 8, 8, 8, 8, 8, 8, 8, 8, 8, 8, 8, 8, 8, 8, 8, 8, 8, 8, 8, 8, 8, 8, 8, 8, 8, 8, 8, 8, 8, 8, 8, 8, 8, 8, 8, 8, 8, 8, 8, 8, 8, 8, 8, 8, 8, 8, 8, 8, 8, 8, 8, 8, 8, 8, 8, 8, 8, 8, 8, 8, 8] ((n.val : Nat) : Int) = some (bitLen n.val : Int) := by decide +kernel
 exact fun n hn => h ⟨n, hn⟩

theorem tabAt {n : Nat} (hn : n < 256) : rdI [0, 1, 2, 2, 3, 3, 3, 3, 4, 4, 4, 4, 4, 4, 4, 4, 5, 5, 5, 5, 5, 5, 5, 5, 5, 5, 5, 5, 5, 5, 5, 5, 6, 6, 6, 6, 6, 6, 6, 6, 6, 6, 6, 6, 6, 6, 6, 6, 6, 6, 6, 6, 6, 6, 6, 6, 6, 6, 6, 6, 6, 6, 6, 6, 7, 7, 7, 7, 7, 7, 7, 7, 7, 7, 7, 7, 7, 7, 7, 7, 7, 7, 7, 7, 7, 7, 7, 7, 7, 7, 7, 7, 7, 7, 7, 7, 7, 7, 7, 7, 7, 7, 7, 7, 7, 7, 7, 7, 7, 7, 7, 7, 7, 7, 7, 7, 7, 7, 7, 7, 7, 7, 7, 7, 7, 7, 7, 7, 8, 8, 8, 8, 8, 8, 8, 8, 8, 8, 8, 8, 8, 8, 8, 8, 8, 8, 8, 8, 8, 8, 8, 8, 8, 8, 8, 8, 8, 8, 8, 8, 8, 8, 8, 8, 8, 8, 8, 8, 8, 8, 8, 8, 8, 8, 8, 8, 8, 8, 8, 8, 8, 8, 8, 8, 8, 8, 8, 8, 8, 8, 8, 8, 8, 8, 8, 8, 8, 8, 8, 8, 8, 8, 8, 8, 8, 8, 8, 8, 8, 8, 8, 8, 8, 8, 8, 8, 8, 8, 8, 8, 8, 8, 8, 8, 8, 8, 8, 8, 8, 8, 8, 8, 8, 8, 8, 8, 8, 8, 8, 8, 8, 8, 8, 8, 8, 8, 8, 8, 8, 8, 8, 8, 8, 8, 8, 8] (IntKind.u8.wrap (n : Int)) = some (bitLen n : Int) := by
 rw [wrap_u8 (by omega) (by omega), tab_ok n hn]

theorem bitLen_le {n k : Nat} (h : n < 2 ^ k) : bitLen n ≤ k := by
 rcases (bitLen_spec n).2 with h2 | h2
 ·omega
 ·rcases Nat.lt_or_ge k (bitLen n) with h3 | h3
  ·have := Nat.pow_le_pow_right (n := 2) (by omega) (show k ≤ bitLen n - 1 by omega)
   omega
  ·exact h3

theorem wadd {a b : Nat} (h : a + b < 1000000000) : IntKind.i64.wrap ((a : Int) + (b : Int)) = ((a + b : Nat) : Int) := by
 rw [wrap_i64 (by omega) (by omega)]; omega
theorem wself {a : Nat} (h : a < 1000000000) : IntKind.i64.wrap (a : Int) = (a : Int) := wrap_i64 (by omega) (by omega)

theorem bits_Len64_ok {n : Nat} (h : n < 18446744073709551616) : bits_Len64 (n : Int) = some (((bitLen n : Int), ()), ()) := by
 have f32 : (n : Int).fdiv (2 ^ 32) = ((n / 4294967296 : Nat) : Int) := fdiv_pow n 32
 have l8 : ∀ m : Nat, m < 256 → bitLen m ≤ 8 := fun m hm => bitLen_le (by omega)
 have key : ∀ m : Nat, ∀ b : Nat, m < 4294967296 → b ≤ 32 →
   (bif (decide ((m : Int) ≥ 65536)) then
    (bif (decide ((m : Int).fdiv (2 ^ 16) ≥ 256)) then
     (rdI [0, 1, 2, 2, 3, 3, 3, 3, 4, 4, 4, 4, 4, 4, 4, 4, 5, 5, 5, 5, 5, 5, 5, 5, 5, 5, 5, 5, 5, 5, 5, 5, 6, 6, 6, 6, 6, 6, 6, 6, 6, 6, 6, 6, 6, 6, 6, 6, 6, 6, 6, 6, 6, 6, 6, 6, 6, 6, 6, 6, 6, 6, 6, 6, 7, 7, 7, 7, 7, 7, 7, 7, 7, 7, 7, 7, 7, 7, 7, 7, 7, 7, 7, 7, 7, 7, 7, 7, 7, 7, 7, 7, 7, 7, 7, 7, 7, 7, 7, 7, 7, 7, 7, 7, 7, 7, 7, 7, 7, 7, 7, 7, 7, 7, 7, 7, 7, 7, 7, 7, 7, 7, 7, 7, 7, 7, 7, 7, 8, 8, 8, 8, 8, 8, 8, 8, 8, 8, 8, 8, 8, 8, 8, 8, 8, 8, 8, 8, 8, 8, 8, 8, 8, 8, 8, 8, 8, 8, 8, 8, 8, 8, 8, 8, 8, 8, 8, 8, 8, 8, 8, 8, 8, 8, 8, 8, 8, 8, 8, 8, 8, 8, 8, 8, 8, 8, 8, 8, 8, 8, 8, 8, 8, 8, 8, 8, 8, 8, 8, 8, 8, 8, 8, 8, 8, 8, 8, 8, 8, 8, 8, 8, 8, 8, 8, 8, 8, 8, 8, 8, 8, 8, 8, 8, 8, 8, 8, 8, 8, 8, 8, 8, 8, 8, 8, 8, 8, 8, 8, 8, 8, 8, 8, 8, 8, 8, 8, 8, 8, 8, 8, 8, 8, 8, 8, 8] (IntKind.u8.wrap (((m : Int).fdiv (2 ^ 16)).fdiv (2 ^ 8)))).bind fun v => some (((IntKind.i64.wrap ((IntKind.i64.wrap ((IntKind.i64.wrap ((b : Int) + 16)) + 8)) + (IntKind.i64.wrap v))), ()), ())
    else (rdI [0, 1, 2, 2, 3, 3, 3, 3, 4, 4, 4, 4, 4, 4, 4, 4, 5, 5, 5, 5, 5, 5, 5, 5, 5, 5, 5, 5, 5, 5, 5, 5, 6, 6, 6, 6, 6, 6, 6, 6, 6, 6, 6, 6, 6, 6, 6, 6, 6, 6, 6, 6, 6, 6, 6, 6, 6, 6, 6, 6, 6, 6, 6, 6, 7, 7, 7, 7, 7, 7, 7, 7, 7, 7, 7, 7, 7, 7, 7, 7, 7, 7, 7, 7, 7, 7, 7, 7, 7, 7, 7, 7, 7, 7, 7, 7, 7, 7, 7, 7, 7, 7, 7, 7, 7, 7, 7, 7, 7, 7, 7, 7, 7, 7, 7, 7, 7, 7, 7, 7, 7, 7, 7, 7, 7, 7, 7, 7, 8, 8, 8, 8, 8, 8, 8, 8, 8, 8, 8, 8, 8, 8, 8, 8, 8, 8, 8, 8, 8, 8, 8, 8, 8, 8, 8, 8, 8, 8, 8, 8, 8, 8, 8, 8, 8, 8, 8, 8, 8, 8, 8, 8, 8, 8, 8, 8, 8, 8, 8, 8, 8, 8, 8, 8, 8, 8, 8, 8, 8, 8, 8, 8, 8, 8, 8, 8, 8, 8, 8, 8, 8, 8, 8, 8, 8, 8, 8, 8, 8, 8, 8, 8, 8, 8, 8, 8, 8, 8, 8, 8, 8, 8, 8, 8, 8, 8, 8, 8, 8, 8, 8, 8, 8, 8, 8, 8, 8, 8, 8, 8, 8, 8, 8, 8, 8, 8, 8, 8, 8, 8, 8, 8, 8, 8, 8, 8] (IntKind.u8.wrap ((m : Int).fdiv (2 ^ 16)))).bind fun v => some (((IntKind.i64.wrap ((IntKind.i64.wrap ((b : Int) + 16)) + (IntKind.i64.wrap v))), ()), ()))
   else (bif (decide ((m : Int) ≥ 256)) then
     (rdI [0, 1, 2, 2, 3, 3, 3, 3, 4, 4, 4, 4, 4, 4, 4, 4, 5, 5, 5, 5, 5, 5, 5, 5, 5, 5, 5, 5, 5, 5, 5, 5, 6, 6, 6, 6, 6, 6, 6, 6, 6, 6, 6, 6, 6, 6, 6, 6, 6, 6, 6, 6, 6, 6, 6, 6, 6, 6, 6, 6, 6, 6, 6, 6, 7, 7, 7, 7, 7, 7, 7, 7, 7, 7, 7, 7, 7, 7, 7, 7, 7, 7, 7, 7, 7, 7, 7, 7, 7, 7, 7, 7, 7, 7, 7, 7, 7, 7, 7, 7, 7, 7, 7, 7, 7, 7, 7, 7, 7, 7, 7, 7, 7, 7, 7, 7, 7, 7, 7, 7, 7, 7, 7, 7, 7, 7, 7, 7, 8, 8, 8, 8, 8, 8, 8, 8, 8, 8, 8, 8, 8, 8, 8, 8, 8, 8, 8, 8, 8, 8, 8, 8, 8, 8, 8, 8, 8, 8, 8, 8, 8, 8, 8, 8, 8, 8, 8, 8, 8, 8, 8, 8, 8, 8, 8, 8, 8, 8, 8, 8, 8, 8, 8, 8, 8, 8, 8, 8, 8, 8, 8, 8, 8, 8, 8, 8, 8, 8, 8, 8, 8, 8, 8, 8, 8, 8, 8, 8, 8, 8, 8, 8, 8, 8, 8, 8, 8, 8, 8, 8, 8, 8, 8, 8, 8, 8, 8, 8, 8, 8, 8, 8, 8, 8, 8, 8, 8, 8, 8, 8, 8, 8, 8, 8, 8, 8, 8, 8, 8, 8, 8, 8, 8, 8, 8, 8] (IntKind.u8.wrap ((m : Int).fdiv (2 ^ 8)))).bind fun v => some (((IntKind.i64.wrap ((IntKind.i64.wrap ((b : Int) + 8)) + (IntKind.i64.wrap v))), ()), ())
    else (rdI [0, 1, 2, 2, 3, 3, 3, 3, 4, 4, 4, 4, 4, 4, 4, 4, 5, 5, 5, 5, 5, 5, 5, 5, 5, 5, 5, 5, 5, 5, 5, 5, 6, 6, 6, 6, 6, 6, 6, 6, 6, 6, 6, 6, 6, 6, 6, 6, 6, 6, 6, 6, 6, 6, 6, 6, 6, 6, 6, 6, 6, 6, 6, 6, 7, 7, 7, 7, 7, 7, 7, 7, 7, 7, 7, 7, 7, 7, 7, 7, 7, 7, 7, 7, 7, 7, 7, 7, 7, 7, 7, 7, 7, 7, 7, 7, 7, 7, 7, 7, 7, 7, 7, 7, 7, 7, 7, 7, 7, 7, 7, 7, 7, 7, 7, 7, 7, 7, 7, 7, 7, 7, 7, 7, 7, 7, 7, 7, 8, 8, 8, 8, 8, 8, 8, 8, 8, 8, 8, 8, 8, 8, 8, 8, 8, 8, 8, 8, 8, 8, 8, 8, 8, 8, 8, 8, 8, 8, 8, 8, 8, 8, 8, 8, 8, 8, 8, 8, 8, 8, 8, 8, 8, 8, 8, 8, 8, 8, 8, 8, 8, 8, 8, 8, 8, 8, 8, 8, 8, 8, 8, 8, 8, 8, 8, 8, 8, 8, 8, 8, 8, 8, 8, 8, 8, 8, 8, 8, 8, 8, 8, 8, 8, 8, 8, 8, 8, 8, 8, 8, 8, 8, 8, 8, 8, 8, 8, 8, 8, 8, 8, 8, 8, 8, 8, 8, 8, 8, 8, 8, 8, 8, 8, 8, 8, 8, 8, 8, 8, 8, 8, 8, 8, 8, 8, 8] (IntKind.u8.wrap (m : Int))).bind fun v => some (((IntKind.i64.wrap ((b : Int) + (IntKind.i64.wrap v))), ()), ())) : Option ((Int × Unit) × Unit)) = some ((((b + bitLen m : Nat) : Int), ()), ()) := by
  intro m b hm hb
  have g16 : (m : Int).fdiv (2 ^ 16) = ((m / 65536 : Nat) : Int) := fdiv_pow m 16
  have g8 : (m : Int).fdiv (2 ^ 8) = ((m / 256 : Nat) : Int) := fdiv_pow m 8
  have g24 : ((m / 65536 : Nat) : Int).fdiv (2 ^ 8) = ((m / 65536 / 256 : Nat) : Int) := fdiv_pow _ 8
  rw [g16, g8, g24]
  have w16 : IntKind.i64.wrap ((b : Int) + 16) = ((b + 16 : Nat) : Int) := wadd (b := 16) (by omega)
  have w8 : IntKind.i64.wrap ((b : Int) + 8) = ((b + 8 : Nat) : Int) := wadd (b := 8) (by omega)
  have w24 : IntKind.i64.wrap (((b + 16 : Nat) : Int) + 8) = ((b + 16 + 8 : Nat) : Int) := wadd (b := 8) (by omega)
  rw [w16, w8, w24]
  by_cases h16 : 65536 ≤ m
  ·rw [decide_eq_true (show (m : Int) ≥ 65536 by omega), cond_true]
   have s16 := bitLen_shift (n := m) (k := 16) h16
   rw [show (2 : Nat) ^ 16 = 65536 from rfl] at s16
   by_cases h8 : 256 ≤ m / 65536
   ·have s8 := bitLen_shift (n := m / 65536) (k := 8) h8
    rw [show (2 : Nat) ^ 8 = 256 from rfl] at s8
    have := l8 (m / 65536 / 256) (by omega)
    rw [decide_eq_true (show ((m / 65536 : Nat) : Int) ≥ 256 by omega), cond_true, tabAt (by omega), Option.bind_some, wself (by omega), wadd (by omega), s16, s8]
    congr 4
    omega
   ·have := l8 (m / 65536) (by omega)
    rw [decide_eq_false (show ¬ ((m / 65536 : Nat) : Int) ≥ 256 by omega), cond_false, tabAt (by omega), Option.bind_some, wself (by omega), wadd (by omega), s16]
    congr 4
    omega
  ·rw [decide_eq_false (show ¬ (m : Int) ≥ 65536 by omega), cond_false]
   by_cases h8 : 256 ≤ m
   ·have s8 := bitLen_shift (n := m) (k := 8) h8
    rw [show (2 : Nat) ^ 8 = 256 from rfl] at s8
    have := l8 (m / 256) (by omega)
    rw [decide_eq_true (show (m : Int) ≥ 256 by omega), cond_true, tabAt (by omega), Option.bind_some, wself (by omega), wadd (by omega), s8]
    congr 4
    omega
   ·have := l8 m (by omega)
    rw [decide_eq_false (show ¬ (m : Int) ≥ 256 by omega), cond_false, tabAt (by omega), Option.bind_some, wself (by omega), wadd (by omega)]
 unfold bits_Len64
 by_cases hb : 4294967296 ≤ n
 ·rw [decide_eq_true (show (n : Int) ≥ 4294967296 by omega), cond_true, f32]
  have := key (n / 4294967296) 32 (by omega) (by omega)
  have s32 := bitLen_shift (n := n) (k := 32) hb
  rw [show (2 : Nat) ^ 32 = 4294967296 from rfl] at s32
  rw [s32]
  exact this
 ·rw [decide_eq_false (show ¬ (n : Int) ≥ 4294967296 by omega), cond_false]
  have := key n 0 (by omega) (by omega)
  rw [Nat.zero_add] at this
  exact this

end Go.L

namespace Go.L
open Go Go.Pv
set_option maxRecDepth 100000

theorem rem_wrap {u c y : Nat} (hy : 0 < y) (hy2 : y < 18446744073709551616) :
  IntKind.u64.wrap ((IntKind.u64.wrap ((IntKind.u64.wrap ((u : Int) * 4294967296)) + (c : Int))) - (IntKind.u64.wrap ((((u * 4294967296 + c) / y : Nat) : Int) * (y : Int)))) = (((u * 4294967296 + c) % y : Nat) : Int) := by
 have h1 := Nat.div_add_mod (u * 4294967296 + c) y
 have h2 := Nat.mod_lt (u * 4294967296 + c) hy
 have e : (((u * 4294967296 + c) / y : Nat) : Int) * (y : Int) = ((y * ((u * 4294967296 + c) / y) : Nat) : Int) := by rw [Nat.mul_comm y, Int.natCast_mul]
 rw [e, wrapu, wrapu, wrapu, wrapu]
 generalize y * ((u * 4294967296 + c) / y) = p at *
 generalize (u * 4294967296 + c) % y = r at *
 omega

theorem digit_lt {u c y : Nat} (hu : u < y) (hc : c < 4294967296) : (u * 4294967296 + c) / y < 4294967296 :=
 (Nat.div_lt_iff_lt_mul (by omega)).2 (by omega)

structure Dig (u c y1 y0 q rh : Nat) : Prop where
 hc : c < 4294967296
 hy1 : 2147483648 ≤ y1
 hy1' : y1 < 4294967296
 hy0 : y0 < 4294967296
 hu : u < y1 * 4294967296 + y0
 hq : q ≤ 4294967297
 hI : q * y1 + rh = u
 hr : rh < 4294967296
 hQ : (u * 4294967296 + c) / (y1 * 4294967296 + y0) ≤ q

theorem Dig.init {u c y1 y0 : Nat} (hc : c < 4294967296) (hy1 : 2147483648 ≤ y1) (hy1' : y1 < 4294967296) (hy0 : y0 < 4294967296) (hu : u < y1 * 4294967296 + y0) : Dig u c y1 y0 (u / y1) (u % y1) := by
 have hm := Nat.mod_lt u (show 0 < y1 by omega)
 refine ⟨hc, hy1, hy1', hy0, hu, ?_, by rw [Nat.mul_comm]; exact Nat.div_add_mod u y1, by omega, ?_⟩
 ·have : u / y1 < 4294967298 := (Nat.div_lt_iff_lt_mul (by omega)).2 (by omega)
  omega
 ·have hy : 0 < y1 * 4294967296 + y0 := by omega
  refine (Nat.le_div_iff_mul_le (by omega)).2 ?_
  have h1 := Nat.div_mul_le_self (u * 4294967296 + c) (y1 * 4294967296 + y0)
  generalize (u * 4294967296 + c) / (y1 * 4294967296 + y0) = Q at *
  rw [Nat.mul_add, ← Nat.mul_assoc] at h1
  omega

theorem div64_s2_ok {s y1 y0 un0 q1 un21 : Nat} (hs : s ≤ 64) (hq1 : q1 < 4294967296) : ∀ {q rh : Nat}, Dig un21 un0 y1 y0 q rh →
  loopR (fun (z : (Int × Int × Int × Int × Int × Int × Int × Int × Int × Unit) × (Unit)) => bits_Div64_s2 z.1.1 z.1.2.1 z.1.2.2.1 z.1.2.2.2.1 z.1.2.2.2.2.1 z.1.2.2.2.2.2.1 z.1.2.2.2.2.2.2.1 z.1.2.2.2.2.2.2.2.1 z.1.2.2.2.2.2.2.2.2.1)
   ((((y1 * 4294967296 + y0 : Nat) : Int), (s : Int), (y1 : Int), (y0 : Int), (un0 : Int), (q1 : Int), (rh : Int), (un21 : Int), (q : Int), ()), ()) =
  some ((((q1 * 4294967296 + (un21 * 4294967296 + un0) / (y1 * 4294967296 + y0) : Nat) : Int), (((un21 * 4294967296 + un0) % (y1 * 4294967296 + y0) / 2 ^ s : Nat) : Int), ()), ()) := by
 intro q rh hD
 refine loop_meas (fun z => ∃ q rh, Dig un21 un0 y1 y0 q rh ∧ z = ((((y1 * 4294967296 + y0 : Nat) : Int), (s : Int), (y1 : Int), (y0 : Int), (un0 : Int), (q1 : Int), (rh : Int), (un21 : Int), (q : Int), ()), ())) (fun z => z.1.2.2.2.2.2.2.2.2.1.toNat) ?_ ⟨q, rh, hD, rfl⟩
 rintro _ ⟨q, rh, hD, rfl⟩
 obtain ⟨k1, k2⟩ := knuth hD.hc hD.hy1 hD.hy0 hD.hu hD.hq hD.hI hD.hQ
 have hQ := digit_lt hD.hu hD.hc
 have hy : 0 < y1 * 4294967296 + y0 := by have := hD.hy1; omega
 have hy2 : y1 * 4294967296 + y0 < 18446744073709551616 := by have := hD.hy1'; have := hD.hy0; omega
 have hy1 := hD.hy1; have hy1' := hD.hy1'; have hy0 := hD.hy0; have hc := hD.hc; have hrh := hD.hr; have hqm := hD.hq

 have hout : ∀ q', q' = (un21 * 4294967296 + un0) / (y1 * 4294967296 + y0) → (shrI .u64 (IntKind.u64.wrap ((IntKind.u64.wrap ((IntKind.u64.wrap ((un21 : Int) * 4294967296)) + (un0 : Int))) - (IntKind.u64.wrap ((q' : Int) * ((y1 * 4294967296 + y0 : Nat) : Int))))) (s : Int)).bind (fun v_52 =>
   some (((IntKind.u64.wrap ((IntKind.u64.wrap ((q1 : Int) * 4294967296)) + (q' : Int))), v_52, ()), ())) =
   some ((((q1 * 4294967296 + (un21 * 4294967296 + un0) / (y1 * 4294967296 + y0) : Nat) : Int), (((un21 * 4294967296 + un0) % (y1 * 4294967296 + y0) / 2 ^ s : Nat) : Int), ()), ()) := by
  rintro _ rfl
  rw [rem_wrap hy hy2, shr_ok, Option.bind_some, Nat.min_eq_left hs, wrapu, wrapu]
  refine congrArg some (Prod.ext (Prod.ext ?_ rfl) rfl)
  dsimp only
  generalize (un21 * 4294967296 + un0) / (y1 * 4294967296 + y0) = Q at *
  omega
 simp only
 unfold bits_Div64_s2
 simp only [gsome]
 by_cases hq : 4294967296 ≤ q
 ·rw [decide_eq_true (show (q : Int) ≥ 4294967296 by omega), cond_true, cond_true]
  obtain ⟨p1, p2, p3, p4⟩ := k2 (.inl hq)
  have e1 : IntKind.u64.wrap ((q : Int) - 1) = ((q - 1 : Nat) : Int) := by rw [wrapu]; omega
  have e2 : IntKind.u64.wrap ((rh : Int) + (y1 : Int)) = ((rh + y1 : Nat) : Int) := by rw [wrapu]; omega
  rw [e1, e2]
  by_cases hr : 4294967296 ≤ rh + y1
  ·left
   rw [decide_eq_true (show ((rh + y1 : Nat) : Int) ≥ 4294967296 by omega), cond_true, hout _ (p4 hr)]
   rfl
  ·right
   rw [decide_eq_false (show ¬ ((rh + y1 : Nat) : Int) ≥ 4294967296 by omega), cond_false]
   refine ⟨_, rfl, ⟨q - 1, rh + y1, ⟨hD.hc, hD.hy1, hD.hy1', hD.hy0, hD.hu, by omega, p3, by omega, p2⟩, rfl⟩, ?_⟩
   simp only
   omega
 ·rw [decide_eq_false (show ¬ (q : Int) ≥ 4294967296 by omega)]
  simp only [Bool.not_false, cond_true, cond_false]
  have hm1 : q * y0 ≤ 4294967295 * 4294967295 := Nat.mul_le_mul (by omega) (by omega)
  have e3 : IntKind.u64.wrap ((q : Int) * (y0 : Int)) = ((q * y0 : Nat) : Int) := by
   rw [show (q : Int) * (y0 : Int) = ((q * y0 : Nat) : Int) by simp, wu64 (by omega)]
  have e4 : IntKind.u64.wrap (4294967296 * (rh : Int)) = ((4294967296 * rh : Nat) : Int) := by
   rw [show 4294967296 * (rh : Int) = ((4294967296 * rh : Nat) : Int) by simp, wu64 (by omega)]
  have e5 : IntKind.u64.wrap (((4294967296 * rh : Nat) : Int) + (un0 : Int)) = ((4294967296 * rh + un0 : Nat) : Int) := by
   rw [show ((4294967296 * rh : Nat) : Int) + (un0 : Int) = ((4294967296 * rh + un0 : Nat) : Int) by simp, wu64 (by omega)]
  rw [e3, e4, e5]
  by_cases hc2 : 4294967296 * rh + un0 < q * y0
  ·rw [decide_eq_true (show ((q * y0 : Nat) : Int) > ((4294967296 * rh + un0 : Nat) : Int) by omega), cond_true]
   obtain ⟨p1, p2, p3, p4⟩ := k2 (.inr hc2)
   have e1 : IntKind.u64.wrap ((q : Int) - 1) = ((q - 1 : Nat) : Int) := by rw [wrapu]; omega
   have e2 : IntKind.u64.wrap ((rh : Int) + (y1 : Int)) = ((rh + y1 : Nat) : Int) := by rw [wrapu]; omega
   rw [e1, e2]
   by_cases hr : 4294967296 ≤ rh + y1
   ·left
    rw [decide_eq_true (show ((rh + y1 : Nat) : Int) ≥ 4294967296 by omega), cond_true, hout _ (p4 hr)]
    rfl
   ·right
    rw [decide_eq_false (show ¬ ((rh + y1 : Nat) : Int) ≥ 4294967296 by omega), cond_false]
    refine ⟨_, rfl, ⟨q - 1, rh + y1, ⟨hD.hc, hD.hy1, hD.hy1', hD.hy0, hD.hu, by omega, p3, by omega, p2⟩, rfl⟩, ?_⟩
    simp only
    omega
  ·left
   rw [decide_eq_false (show ¬ ((q * y0 : Nat) : Int) > ((4294967296 * rh + un0 : Nat) : Int) by omega), cond_false, hout q (k1 ⟨by omega, by omega⟩)]
   rfl

theorem div64_mid {s y1 y0 un0 v q' : Nat} (hs : s ≤ 64) (h0 : un0 < 4294967296) (hy1 : 2147483648 ≤ y1) (hy1' : y1 < 4294967296) (hy0 : y0 < 4294967296) (hm : v < y1 * 4294967296 + y0) (hQ : q' < 4294967296) :
  ((quoI .u64 (v : Int) (y1 : Int)).bind fun v_34 =>
   loopR (fun (z : (Int × Int × Int × Int × Int × Int × Int × Int × Int × Unit) × (Unit)) => bits_Div64_s2 z.1.1 z.1.2.1 z.1.2.2.1 z.1.2.2.2.1 z.1.2.2.2.2.1 z.1.2.2.2.2.2.1 z.1.2.2.2.2.2.2.1 z.1.2.2.2.2.2.2.2.1 z.1.2.2.2.2.2.2.2.2.1) ((((y1 * 4294967296 + y0 : Nat) : Int), (s : Int), (y1 : Int), (y0 : Int), (un0 : Int), (q' : Int),
    (IntKind.u64.wrap ((v : Int) - (IntKind.u64.wrap (v_34 * (y1 : Int))))), (v : Int), v_34, ()), ())) =
  some ((((q' * 4294967296 + (v * 4294967296 + un0) / (y1 * 4294967296 + y0) : Nat) : Int), (((v * 4294967296 + un0) % (y1 * 4294967296 + y0) / 2 ^ s : Nat) : Int), ()), ()) := by
 have e1 : quoI .u64 (v : Int) (y1 : Int) = some ((v / y1 : Nat) : Int) := by
  unfold quoI
  rw [if_neg (by omega), Int.tdiv_eq_ediv_of_nonneg (by omega)]
  have : ((v : Int) / (y1 : Int)) = ((v / y1 : Nat) : Int) := by simp
  rw [this, wu64]
  exact Nat.lt_of_le_of_lt (Nat.div_le_self _ _) (by omega)
 have e2 : IntKind.u64.wrap ((v : Int) - IntKind.u64.wrap (((v / y1 : Nat) : Int) * (y1 : Int))) = ((v % y1 : Nat) : Int) := by
  have h1 := Nat.div_add_mod v y1
  have h2 := Nat.mod_lt v (show 0 < y1 by omega)
  rw [show ((v / y1 : Nat) : Int) * (y1 : Int) = ((y1 * (v / y1) : Nat) : Int) by rw [Nat.mul_comm y1, Int.natCast_mul], wrapu, wrapu]
  generalize y1 * (v / y1) = p at *
  generalize v % y1 = r at *
  omega
 rw [e1, Option.bind_some, e2]
 exact div64_s2_ok hs hQ (Dig.init h0 hy1 hy1' hy0 hm)

theorem div64_s0_ok {s y1 y0 un32 un1 un0 : Nat} (hs : s ≤ 64) (h0 : un0 < 4294967296) : ∀ {q rh : Nat}, Dig un32 un1 y1 y0 q rh →
  loopR (fun (z : (Int × Int × Int × Int × Int × Int × Int × Int × Int × Unit) × (Unit)) => bits_Div64_s0 z.1.1 z.1.2.1 z.1.2.2.1 z.1.2.2.2.1 z.1.2.2.2.2.1 z.1.2.2.2.2.2.1 z.1.2.2.2.2.2.2.1 z.1.2.2.2.2.2.2.2.1 z.1.2.2.2.2.2.2.2.2.1)
   ((((y1 * 4294967296 + y0 : Nat) : Int), (s : Int), (y1 : Int), (y0 : Int), (un32 : Int), (un1 : Int), (un0 : Int), (q : Int), (rh : Int), ()), ()) =
  some ((((((un32 * 4294967296 + un1) / (y1 * 4294967296 + y0)) * 4294967296 + ((un32 * 4294967296 + un1) % (y1 * 4294967296 + y0) * 4294967296 + un0) / (y1 * 4294967296 + y0) : Nat) : Int), ((((un32 * 4294967296 + un1) % (y1 * 4294967296 + y0) * 4294967296 + un0) % (y1 * 4294967296 + y0) / 2 ^ s : Nat) : Int), ()), ()) := by
 intro q rh hD
 refine loop_meas (fun z => ∃ q rh, Dig un32 un1 y1 y0 q rh ∧ z = ((((y1 * 4294967296 + y0 : Nat) : Int), (s : Int), (y1 : Int), (y0 : Int), (un32 : Int), (un1 : Int), (un0 : Int), (q : Int), (rh : Int), ()), ())) (fun z => z.1.2.2.2.2.2.2.2.1.toNat) ?_ ⟨q, rh, hD, rfl⟩
 rintro _ ⟨q, rh, hD, rfl⟩
 obtain ⟨k1, k2⟩ := knuth hD.hc hD.hy1 hD.hy0 hD.hu hD.hq hD.hI hD.hQ
 have hQ := digit_lt hD.hu hD.hc
 have hy : 0 < y1 * 4294967296 + y0 := by have := hD.hy1; omega
 have hy2 : y1 * 4294967296 + y0 < 18446744073709551616 := by have := hD.hy1'; have := hD.hy0; omega
 have hy1 := hD.hy1; have hy1' := hD.hy1'; have hy0 := hD.hy0; have hc := hD.hc; have hrh := hD.hr; have hqm := hD.hq
 have hm := Nat.mod_lt (un32 * 4294967296 + un1) hy
 have hout : ∀ q', q' = (un32 * 4294967296 + un1) / (y1 * 4294967296 + y0) →
   ((quoI .u64 (IntKind.u64.wrap ((IntKind.u64.wrap ((IntKind.u64.wrap ((un32 : Int) * 4294967296)) + (un1 : Int))) - (IntKind.u64.wrap ((q' : Int) * ((y1 * 4294967296 + y0 : Nat) : Int))))) (y1 : Int)).bind fun v_34 =>
   loopR (fun (z : (Int × Int × Int × Int × Int × Int × Int × Int × Int × Unit) × (Unit)) => bits_Div64_s2 z.1.1 z.1.2.1 z.1.2.2.1 z.1.2.2.2.1 z.1.2.2.2.2.1 z.1.2.2.2.2.2.1 z.1.2.2.2.2.2.2.1 z.1.2.2.2.2.2.2.2.1 z.1.2.2.2.2.2.2.2.2.1) ((((y1 * 4294967296 + y0 : Nat) : Int), (s : Int), (y1 : Int), (y0 : Int), (un0 : Int), (q' : Int),
    (IntKind.u64.wrap ((IntKind.u64.wrap ((IntKind.u64.wrap ((IntKind.u64.wrap ((un32 : Int) * 4294967296)) + (un1 : Int))) - (IntKind.u64.wrap ((q' : Int) * ((y1 * 4294967296 + y0 : Nat) : Int))))) - (IntKind.u64.wrap (v_34 * (y1 : Int))))),
    (IntKind.u64.wrap ((IntKind.u64.wrap ((IntKind.u64.wrap ((un32 : Int) * 4294967296)) + (un1 : Int))) - (IntKind.u64.wrap ((q' : Int) * ((y1 * 4294967296 + y0 : Nat) : Int))))), v_34, ()), ())) =
  some ((((((un32 * 4294967296 + un1) / (y1 * 4294967296 + y0)) * 4294967296 + ((un32 * 4294967296 + un1) % (y1 * 4294967296 + y0) * 4294967296 + un0) / (y1 * 4294967296 + y0) : Nat) : Int), ((((un32 * 4294967296 + un1) % (y1 * 4294967296 + y0) * 4294967296 + un0) % (y1 * 4294967296 + y0) / 2 ^ s : Nat) : Int), ()), ()) := by
  rintro _ rfl
  rw [rem_wrap hy hy2]
  exact div64_mid hs h0 hy1 hy1' hy0 hm hQ
 simp only
 unfold bits_Div64_s0
 simp only [gsome]
 by_cases hq : 4294967296 ≤ q
 ·rw [decide_eq_true (show (q : Int) ≥ 4294967296 by omega), cond_true, cond_true]
  obtain ⟨p1, p2, p3, p4⟩ := k2 (.inl hq)
  have e1 : IntKind.u64.wrap ((q : Int) - 1) = ((q - 1 : Nat) : Int) := by rw [wrapu]; omega
  have e2 : IntKind.u64.wrap ((rh : Int) + (y1 : Int)) = ((rh + y1 : Nat) : Int) := by rw [wrapu]; omega
  rw [e1, e2]
  by_cases hr : 4294967296 ≤ rh + y1
  ·left
   rw [decide_eq_true (show ((rh + y1 : Nat) : Int) ≥ 4294967296 by omega), cond_true, hout _ (p4 hr)]
   rfl
  ·right
   rw [decide_eq_false (show ¬ ((rh + y1 : Nat) : Int) ≥ 4294967296 by omega), cond_false]
   refine ⟨_, rfl, ⟨q - 1, rh + y1, ⟨hD.hc, hD.hy1, hD.hy1', hD.hy0, hD.hu, by omega, p3, by omega, p2⟩, rfl⟩, ?_⟩
   simp only
   omega
 ·rw [decide_eq_false (show ¬ (q : Int) ≥ 4294967296 by omega)]
  simp only [Bool.not_false, cond_true, cond_false]
  have hm1 : q * y0 ≤ 4294967295 * 4294967295 := Nat.mul_le_mul (by omega) (by omega)
  have e3 : IntKind.u64.wrap ((q : Int) * (y0 : Int)) = ((q * y0 : Nat) : Int) := by
   rw [show (q : Int) * (y0 : Int) = ((q * y0 : Nat) : Int) by simp, wu64 (by omega)]
  have e4 : IntKind.u64.wrap (4294967296 * (rh : Int)) = ((4294967296 * rh : Nat) : Int) := by
   rw [show 4294967296 * (rh : Int) = ((4294967296 * rh : Nat) : Int) by simp, wu64 (by omega)]
  have e5 : IntKind.u64.wrap (((4294967296 * rh : Nat) : Int) + (un1 : Int)) = ((4294967296 * rh + un1 : Nat) : Int) := by
   rw [show ((4294967296 * rh : Nat) : Int) + (un1 : Int) = ((4294967296 * rh + un1 : Nat) : Int) by simp, wu64 (by omega)]
  rw [e3, e4, e5]
  by_cases hc2 : 4294967296 * rh + un1 < q * y0
  ·rw [decide_eq_true (show ((q * y0 : Nat) : Int) > ((4294967296 * rh + un1 : Nat) : Int) by omega), cond_true]
   obtain ⟨p1, p2, p3, p4⟩ := k2 (.inr hc2)
   have e1 : IntKind.u64.wrap ((q : Int) - 1) = ((q - 1 : Nat) : Int) := by rw [wrapu]; omega
   have e2 : IntKind.u64.wrap ((rh : Int) + (y1 : Int)) = ((rh + y1 : Nat) : Int) := by rw [wrapu]; omega
   rw [e1, e2]
   by_cases hr : 4294967296 ≤ rh + y1
   ·left
    rw [decide_eq_true (show ((rh + y1 : Nat) : Int) ≥ 4294967296 by omega), cond_true, hout _ (p4 hr)]
    rfl
   ·right
    rw [decide_eq_false (show ¬ ((rh + y1 : Nat) : Int) ≥ 4294967296 by omega), cond_false]
    refine ⟨_, rfl, ⟨q - 1, rh + y1, ⟨hD.hc, hD.hy1, hD.hy1', hD.hy0, hD.hu, by omega, p3, by omega, p2⟩, rfl⟩, ?_⟩
    simp only
    omega
  ·left
   rw [decide_eq_false (show ¬ ((q * y0 : Nat) : Int) > ((4294967296 * rh + un1 : Nat) : Int) by omega), cond_false, hout q (k1 ⟨by omega, by omega⟩)]
   rfl

theorem or_add {a b s : Nat} (h : a % 2 ^ s = 0) (hb : b < 2 ^ s) (hab : a + b < 18446744073709551616) : bitsI .or .u64 (a : Int) (b : Int) = ((a + b : Nat) : Int) := by
 have key : (BitVec.ofInt 64 (a : Int) ||| BitVec.ofInt 64 (b : Int)).toNat = a + b := by
  rw [BitVec.toNat_or, BitVec.ofInt_natCast, BitVec.ofInt_natCast, BitVec.toNat_ofNat, BitVec.toNat_ofNat, Nat.mod_eq_of_lt (show a < 2 ^ 64 by omega), Nat.mod_eq_of_lt (show b < 2 ^ 64 by omega)]
  have := Nat.shiftLeft_add_eq_or_of_lt hb (a / 2 ^ s)
  rw [Nat.shiftLeft_eq, Nat.div_mul_cancel (Nat.dvd_of_mod_eq_zero h)] at this
  exact this.symm
 show IntKind.u64.wrap (((BitVec.ofInt 64 (a : Int) ||| BitVec.ofInt 64 (b : Int)).toNat : Nat) : Int) = _
 rw [key, wu64 hab]

theorem div_moved {U y s Q0 Q1 u32 u21 R un1 un0 : Nat} (hy : 0 < y) (h1 : U * 2 ^ s = u32 * 18446744073709551616 + (un1 * 4294967296 + un0)) (h2 : y * 2 ^ s * Q1 + u21 = u32 * 4294967296 + un1) (h3 : y * 2 ^ s * Q0 + R = u21 * 4294967296 + un0) (h4 : R < y * 2 ^ s) :
  Q1 * 4294967296 + Q0 = U / y ∧ R / 2 ^ s = U % y := by
 have hp := Nat.two_pow_pos s
 have e : U * 2 ^ s = (Q1 * 4294967296 + Q0) * y * 2 ^ s + R := by
  have : (Q1 * 4294967296 + Q0) * y * 2 ^ s = y * 2 ^ s * Q1 * 4294967296 + y * 2 ^ s * Q0 := by
   rw [Nat.mul_assoc, Nat.add_mul, Nat.mul_comm Q0, Nat.mul_comm (Q1 * 4294967296), ← Nat.mul_assoc]
  rw [this, h1]
  generalize y * 2 ^ s * Q1 = p at *
  generalize y * 2 ^ s * Q0 = q at *
  omega
 obtain ⟨Q, hQ⟩ : ∃ Q, Q1 * 4294967296 + Q0 = Q := ⟨_, rfl⟩
 rw [hQ] at e ⊢
 have hle : Q * y ≤ U := by
  rcases Nat.lt_or_ge U (Q * y) with h | h
  ·have := Nat.mul_lt_mul_of_pos_right h hp
   omega
  ·exact h
 have hR : R = (U - Q * y) * 2 ^ s := by rw [Nat.sub_mul]; omega
 have hlt : U - Q * y < y := by
  rw [hR] at h4
  exact Nat.lt_of_mul_lt_mul_right h4
 have := (Nat.div_mod_unique (a := U) (c := U - Q * y) (d := Q) hy).2 ⟨by rw [Nat.mul_comm y Q]; omega, hlt⟩
 rw [hR, Nat.mul_div_cancel _ hp]
 exact ⟨this.1.symm, this.2.symm⟩

theorem bits_Div64_ok {hi lo y : Nat} (hlo : lo < 18446744073709551616) (hy : y < 18446744073709551616) (h : hi < y) :
  bits_Div64 (hi : Int) (lo : Int) (y : Int) = some (((((hi * 18446744073709551616 + lo) / y : Nat) : Int), (((hi * 18446744073709551616 + lo) % y : Nat) : Int), ()), ()) := by
 unfold bits_Div64
 rw [decide_eq_false (show ¬ (y : Int) = 0 by omega), cond_false, decide_eq_false (show ¬ (y : Int) ≤ hi by omega), cond_false]
 by_cases h0 : hi = 0
 ·subst h0
  rw [decide_eq_true (show ((0 : Nat) : Int) = 0 from rfl), cond_true, Nat.zero_mul, Nat.zero_add]
  unfold quoI remI
  rw [if_neg (by omega), if_neg (by omega), Option.bind_some, Option.bind_some, Int.tdiv_eq_ediv_of_nonneg (by omega), Int.tmod_eq_emod_of_nonneg (by omega)]
  rw [show ((lo : Int) / (y : Int)) = ((lo / y : Nat) : Int) by simp, show ((lo : Int) % (y : Int)) = ((lo % y : Nat) : Int) by simp, wu64 (Nat.lt_of_le_of_lt (Nat.div_le_self _ _) hlo)]
 ·rw [decide_eq_false (show ¬ (hi : Int) = 0 by omega), cond_false]
  obtain ⟨b1, b2⟩ := bitLen_spec y
  have hb : bitLen y ≤ 64 := bitLen_le hy
  have hb0 : 1 ≤ bitLen y := by
   rcases Nat.eq_zero_or_pos (bitLen y) with e | e
   ·rw [e] at b1; omega
   ·exact e
  obtain ⟨s, hs⟩ : ∃ s, bitLen y + s = 64 := ⟨64 - bitLen y, by omega⟩
  have hlz : bits_LeadingZeros64 (y : Int) = some (((s : Int), ()), ()) := by
   unfold bits_LeadingZeros64
   rw [bits_Len64_ok hy, Option.bind_some]
   dsimp only
   rw [wrap_i64 (by omega) (by omega)]
   congr 3
   omega
  rw [hlz, Option.bind_some]
  dsimp only
  rw [wu64 (show s < 18446744073709551616 by omega)]
  have hp := Nat.two_pow_pos s
  have h64 : (2 : Nat) ^ bitLen y * 2 ^ s = 18446744073709551616 := by rw [← Nat.pow_add, hs]

  have hY : y * 2 ^ s < 18446744073709551616 := by rw [← h64]; exact Nat.mul_lt_mul_of_pos_right b1 hp
  have hY2 : 9223372036854775808 ≤ y * 2 ^ s := by
   have b2 := b2.resolve_left (by omega)
   have e : (2 : Nat) ^ (bitLen y - 1) * 2 ^ s = 9223372036854775808 := by rw [← Nat.pow_add, show bitLen y - 1 + s = 63 by omega]
   rw [← e]; exact Nat.mul_le_mul_right _ b2
  have hH : hi * 2 ^ s < y * 2 ^ s := Nat.mul_lt_mul_of_pos_right h hp
  rw [shl_ok, Option.bind_some, shl_ok, Option.bind_some]
  have w64 : IntKind.u64.wrap (64 - (s : Int)) = ((bitLen y : Nat) : Int) := by rw [wrapu]; omega
  rw [w64, shr_ok, Option.bind_some, shl_ok, Option.bind_some, Nat.min_eq_left (show s ≤ 64 by omega), Nat.min_eq_left hb, Nat.mod_eq_of_lt hY, Nat.mod_eq_of_lt (show hi * 2 ^ s < 18446744073709551616 by omega)]

  have hlo1 : lo / 2 ^ bitLen y < 2 ^ s := (Nat.div_lt_iff_lt_mul (Nat.two_pow_pos _)).2 (by rw [Nat.mul_comm, h64]; exact hlo)
  have hsplit : lo * 2 ^ s = lo / 2 ^ bitLen y * 18446744073709551616 + lo * 2 ^ s % 18446744073709551616 := by
   have e1 : lo * 2 ^ s / 18446744073709551616 = lo / 2 ^ bitLen y := by rw [← h64, Nat.mul_div_mul_right _ _ hp]
   have := Nat.div_add_mod (lo * 2 ^ s) 18446744073709551616
   omega
  have hu : hi * 2 ^ s + lo / 2 ^ bitLen y < y * 2 ^ s := by
   have : (hi + 1) * 2 ^ s ≤ y * 2 ^ s := Nat.mul_le_mul_right _ h
   rw [Nat.add_mul, Nat.one_mul] at this
   omega
  have hor := or_add (a := hi * 2 ^ s) (b := lo / 2 ^ bitLen y) (s := s) (Nat.mul_mod_left _ _) hlo1 (by omega)
  rw [hor]
  have hN : (hi * 18446744073709551616 + lo) * 2 ^ s = (hi * 2 ^ s + lo / 2 ^ bitLen y) * 18446744073709551616 + lo * 2 ^ s % 18446744073709551616 := by
   rw [Nat.add_mul, Nat.mul_right_comm]; omega
  have hm64 := Nat.mod_lt (lo * 2 ^ s) (show 0 < 18446744073709551616 by omega)
  generalize hYd : y * 2 ^ s = Y at *
  generalize hi * 2 ^ s + lo / 2 ^ bitLen y = U32 at *
  generalize lo * 2 ^ s % 18446744073709551616 = U10 at *
  rw [and_mask hY, and_mask hm64]
  rw [show (Y : Int).fdiv (2 ^ 32) = ((Y / 4294967296 : Nat) : Int) from fdiv_pow Y 32, show (U10 : Int).fdiv (2 ^ 32) = ((U10 / 4294967296 : Nat) : Int) from fdiv_pow U10 32]
  have hYs : Y = Y / 4294967296 * 4294967296 + Y % 4294967296 := by omega
  have hq : quoI .u64 (U32 : Int) ((Y / 4294967296 : Nat) : Int) = some ((U32 / (Y / 4294967296) : Nat) : Int) := by
   unfold quoI
   rw [if_neg (by omega), Int.tdiv_eq_ediv_of_nonneg (by omega), show ((U32 : Int) / ((Y / 4294967296 : Nat) : Int)) = ((U32 / (Y / 4294967296) : Nat) : Int) from rfl, wu64 (Nat.lt_of_le_of_lt (Nat.div_le_self _ _) (by omega))]
  rw [hq, Option.bind_some]
  have hr : IntKind.u64.wrap ((U32 : Int) - IntKind.u64.wrap (((U32 / (Y / 4294967296) : Nat) : Int) * ((Y / 4294967296 : Nat) : Int))) = ((U32 % (Y / 4294967296) : Nat) : Int) := by
   have h1 := Nat.div_add_mod U32 (Y / 4294967296)
   have h2 := Nat.mod_lt U32 (show 0 < Y / 4294967296 by omega)
   rw [← Int.natCast_mul, Nat.mul_comm, wrapu, wrapu]
   generalize (Y / 4294967296) * (U32 / (Y / 4294967296)) = p at *
   generalize U32 % (Y / 4294967296) = r at *
   omega
  rw [hr]
  have key := div64_s0_ok (s := s) (y1 := Y / 4294967296) (y0 := Y % 4294967296) (un32 := U32) (un1 := U10 / 4294967296) (un0 := U10 % 4294967296) (by omega) (by omega)
   (Dig.init (by omega) (by omega) (by omega) (by omega) (by omega))
  rw [← hYs] at key
  rw [key]
  have hYp : 0 < Y := by omega
  obtain ⟨k1, k2⟩ := div_moved (U := hi * 18446744073709551616 + lo) (y := y) (s := s) (Q1 := (U32 * 4294967296 + U10 / 4294967296) / Y) (u32 := U32) (un1 := U10 / 4294967296) (un0 := U10 % 4294967296)
   (u21 := (U32 * 4294967296 + U10 / 4294967296) % Y) (Q0 := ((U32 * 4294967296 + U10 / 4294967296) % Y * 4294967296 + U10 % 4294967296) / Y) (R := ((U32 * 4294967296 + U10 / 4294967296) % Y * 4294967296 + U10 % 4294967296) % Y)
   (by omega) (by rw [hN]; omega) (by rw [hYd]; exact Nat.div_add_mod _ _) (by rw [hYd]; exact Nat.div_add_mod _ _) (by rw [hYd]; exact Nat.mod_lt _ hYp)
  rw [k1, k2]

theorem word_Div_ok {a d : Nat} (ha : a < 340282366920938463463374607431768211456) (hd : d < 18446744073709551616) (h0 : 0 < d) : word_Div (wp a) (d : Int) = some ((wp (a / d), ((a % d : Nat) : Int), true, ()), ()) := by
 unfold word_Div wp
 rw [decide_eq_false (show ¬ (d : Int) = 0 by omega), cond_false]
 simp only
 unfold quoI remI
 rw [if_neg (by omega), if_neg (by omega), Option.bind_some, Option.bind_some, Int.tdiv_eq_ediv_of_nonneg (by omega), Int.tmod_eq_emod_of_nonneg (by omega)]
 rw [show (((a / 18446744073709551616 : Nat) : Int) % (d : Int)) = ((a / 18446744073709551616 % d : Nat) : Int) from rfl, bits_Div64_ok (by omega) hd (Nat.mod_lt _ h0), Option.bind_some]
 rw [show (((a / 18446744073709551616 : Nat) : Int) / (d : Int)) = ((a / 18446744073709551616 / d : Nat) : Int) from rfl, wu64 (Nat.lt_of_le_of_lt (Nat.div_le_self _ _) (by omega))]
 have hs : a = a / 18446744073709551616 * 18446744073709551616 + a % 18446744073709551616 := by omega
 have hB : a % 18446744073709551616 < 18446744073709551616 := by omega
 generalize a / 18446744073709551616 = A at *
 generalize a % 18446744073709551616 = B at *
 have h1 := Nat.div_add_mod A d
 have h2 := Nat.mod_lt A h0
 have h3 := Nat.div_add_mod (A % d * 18446744073709551616 + B) d
 have h4 := Nat.mod_lt (A % d * 18446744073709551616 + B) h0
 have h5 : (A % d * 18446744073709551616 + B) / d < 18446744073709551616 := (Nat.div_lt_iff_lt_mul h0).2 (by
  have : (A % d + 1) * 18446744073709551616 ≤ d * 18446744073709551616 := Nat.mul_le_mul_right _ h2
  rw [Nat.mul_comm 18446744073709551616]
  omega)
 have hu := (Nat.div_mod_unique (a := a) (c := (A % d * 18446744073709551616 + B) % d) (d := A / d * 18446744073709551616 + (A % d * 18446744073709551616 + B) / d) h0).2 ⟨by
  rw [Nat.mul_add, ← Nat.mul_assoc]
  generalize d * (A / d) = p at *
  generalize d * ((A % d * 18446744073709551616 + B) / d) = q at *
  omega, h4⟩
 rw [hu.1, hu.2]
 obtain ⟨q, hq⟩ : ∃ q, (A % d * 18446744073709551616 + B) / d = q := ⟨_, rfl⟩
 rw [hq] at h5 ⊢
 obtain ⟨p, hp⟩ : ∃ p, A / d = p := ⟨_, rfl⟩
 rw [hp]
 refine congrArg some (Prod.ext (Prod.ext (Prod.ext ?_ (Prod.ext ?_ rfl)) rfl) rfl)
 ·dsimp only
  clear hu h1 h2 h3 h4 hq hp hs
  omega
 ·dsimp only
  clear hu h1 h2 h3 h4 hq hp hs
  omega

end Go.L

namespace Go.L
open Go Go.Pv
set_option maxRecDepth 100000

def lrow {α : Type} (n : Nat) (f : Nat → α) : List α := (List.range n).map f

theorem lrow_len {α : Type} (n : Nat) (f : Nat → α) : (lrow n f).length = n := by simp [lrow]

theorem lrow_get {α : Type} {n : Nat} (f : Nat → α) {i : Nat} (h : i < n) : (lrow n f)[i]? = some (f i) := by simp [lrow, h]

theorem lrow_ext {α : Type} {n : Nat} {f g : Nat → α} (h : ∀ i, i < n → f i = g i) : lrow n f = lrow n g := by
 unfold lrow
 exact List.map_congr_left fun i hi => h i (List.mem_range.1 hi)

theorem lrow_rd {α : Type} {n : Nat} (f : Nat → α) {i : Nat} (h : i < n) : rdI (lrow n f) (i : Int) = some (f i) := by
 unfold rdI
 rw [if_pos (by omega)]
 simpa using lrow_get f h

theorem lrow_st {α : Type} {n : Nat} (f : Nat → α) {i : Nat} (h : i < n) (v : α) : stI (lrow n f) (i : Int) v = some (lrow n fun j => bif Nat.beq j i then v else f j) := by
 unfold stI
 rw [if_pos ⟨by omega, by rw [lrow_len]; simpa using h⟩]
 congr 1
 apply List.ext_getElem?
 intro j
 rw [List.getElem?_set, Int.toNat_natCast]
 by_cases hj : j < n
 ·rw [lrow_get _ hj]
  by_cases e : i = j
  ·subst e
   rw [if_pos rfl, if_pos (by rw [lrow_len]; exact hj), lrow_get _ hj, Nat.beq_refl]
   rfl
  ·rw [if_neg e, lrow_get _ hj, nbeq (fun h => e h.symm)]
   rfl
 ·have h1 : ∀ g : Nat → α, (lrow n g)[j]? = none := fun g => List.getElem?_eq_none (by rw [lrow_len]; omega)
  rw [h1, h1, if_neg (by omega)]

theorem lrow_of {α : Type} (l : List α) (d : α) : l = lrow l.length fun j => l.getD j d := by
 apply List.ext_getElem?
 intro j
 by_cases hj : j < l.length
 ·rw [lrow_get _ hj]
  simp [List.getElem?_eq_getElem hj, List.getD]
 ·rw [List.getElem?_eq_none (by omega), List.getElem?_eq_none (by rw [lrow_len]; omega)]

def D (b w : Nat) : List Nat := if h : b < 2 ∨ w / b = 0 then [w % b] else (w % b) :: D b (w / b)
 termination_by w
 decreasing_by
 have hb : 2 ≤ b := by omega
 have hw : w ≠ 0 := fun e => h (.inr (by rw [e]; simp))
 exact Nat.div_lt_self (by omega) (by omega)

theorem D_eq {b w : Nat} (hb : 2 ≤ b) : D b w = (w % b) :: (if w / b = 0 then [] else D b (w / b)) := by
 rw [D]
 by_cases h : w / b = 0
 ·rw [dif_pos (.inr h), if_pos h]
 ·rw [dif_neg (by omega), if_neg h]

theorem D_len {b : Nat} (hb : 2 ≤ b) : ∀ k w : Nat, w < 2 ^ (k + 1) → (D b w).length ≤ k + 1
 | 0, w, h => by
  rw [D_eq hb, if_pos (Nat.div_eq_of_lt (by omega))]
  simp
 | k + 1, w, h => by
  rw [D_eq hb]
  by_cases h0 : w / b = 0
  ·rw [if_pos h0]; simp
  ·rw [if_neg h0, List.length_cons]
   have : w / b < 2 ^ (k + 1) := by
    have h1 : w / b ≤ w / 2 := Nat.div_le_div_left hb (by omega)
    have h2 : w / 2 < 2 ^ (k + 1) := by rw [Nat.pow_succ] at h; omega
    omega
   have := D_len hb k (w / b) this
   omega

theorem D_lt {b : Nat} (hb : 2 ≤ b) (w : Nat) : ∀ d ∈ D b w, d < b := by
 induction w using Nat.strongRecOn with
 | _ w ih =>
  rw [D_eq hb]
  intro d hd
  rcases List.mem_cons.1 hd with rfl | hd
  ·exact Nat.mod_lt _ (by omega)
  ·by_cases h : w / b = 0
   ·rw [if_pos h] at hd; cases hd
   ·rw [if_neg h] at hd
    have hw : w ≠ 0 := by rintro rfl; simp at h
    exact ih _ (Nat.div_lt_self (by omega) (by omega)) d hd

def chr (d : Nat) : Int := if d < 10 then 48 + d else 87 + d

theorem hex_rd : ∀ d : Nat, d < 16 → rdI ([48, 49, 50, 51, 52, 53, 54, 55, 56, 57, 97, 98, 99, 100, 101, 102] : List Int) (d : Int) = some (chr d) := by
 have h : ∀ n : Fin 16, rdI ([48, 49, 50, 51, 52, 53, 54, 55, 56, 57, 97, 98, 99, 100, 101, 102] : List Int) ((n.val : Nat) : Int) = some (chr n.val) := by decide
 exact fun n hn => h ⟨n, hn⟩

def text (b w : Nat) : List Int := ((D b w).map chr).reverse

def Sofar (b w0 w : Nat) (l : List Nat) : Prop := l ++ (if w = 0 ∧ l ≠ [] then [] else D b w) = D b w0

theorem Sofar.step {b w0 w : Nat} {l : List Nat} (hb : 2 ≤ b) (h : Sofar b w0 w l) (hc : ¬ (w = 0 ∧ l ≠ [])) : Sofar b w0 (w / b) (l ++ [w % b]) := by
 unfold Sofar at *
 rw [if_neg hc, D_eq hb] at h
 rw [← h, List.append_assoc]
 congr 1
 by_cases h0 : w / b = 0
 ·rw [if_pos ⟨h0, by simp⟩, if_pos h0]; rfl
 ·rw [if_neg (fun h => h0 h.1), if_neg h0]; rfl

theorem Sofar.len {b w0 w : Nat} {l : List Nat} (h : Sofar b w0 w l) : l.length ≤ (D b w0).length := by
 rw [← h, List.length_append]; omega

theorem rev_ok (l : List Int) (hl : l.length < 1000000) : loopR (fun (z : ((List Int) × Int × Int × Unit) × (Unit)) => word_Text_s2 z.1.1 z.1.2.1 z.1.2.2.1) ((l, (IntKind.i64.wrap ((l.length : Int).tdiv 2)), 0, ()), ()) = some ((l.reverse, ()), ()) := by
 have h2 : IntKind.i64.wrap ((l.length : Int).tdiv 2) = ((l.length / 2 : Nat) : Int) := by
  rw [Int.tdiv_eq_ediv_of_nonneg (by omega), wrap_i64 (by omega) (by omega)]; rfl
 rw [h2]
 generalize hn : l.length = n at *
 let g : Nat → Nat → Int := fun i j => if j < i ∨ n - i ≤ j then l.getD (n - 1 - j) 0 else l.getD j 0
 have key := loop_up (f := fun (z : ((List Int) × Int × Int × Unit) × (Unit)) => word_Text_s2 z.1.1 z.1.2.1 z.1.2.2.1) (fun i => ((lrow n (g i), ((n / 2 : Nat) : Int), (i : Int), ()), ())) (n / 2) (r := ((l.reverse, ()), ())) ?_ ?_ 0 (by omega)
 ·have h0 : lrow n (g 0) = l := by
   have := lrow_of l (0 : Int)
   rw [hn] at this
   rw [this]
   refine lrow_ext fun i hi => ?_
   simp only [g]
   rw [if_neg (by omega)]
  rw [h0] at key
  exact key
 ·intro i hi
  have hlen : (lrow n (g i)).length = n := lrow_len n (g i)
  simp only
  unfold word_Text_s2
  rw [decide_eq_true (show (i : Int) < ((n / 2 : Nat) : Int) by omega), cond_true]
  have e1 : IntKind.i64.wrap (IntKind.i64.wrap (((lrow n (g i)).length : Int) - 1) - (i : Int)) = ((n - 1 - i : Nat) : Int) := by
   rw [hlen, wrap_i64 (n := (n : Int) - 1) (by omega) (by omega), wrap_i64 (by omega) (by omega)]; omega
  simp only [e1]
  rw [hlen, ck_nat (show n - 1 - i < n by omega), lrow_rd _ (show n - 1 - i < n by omega), Option.bind_some, ck_nat (show i < n by omega), lrow_rd _ (show i < n by omega), Option.bind_some, ck_nat (show i < n by omega), lrow_st _ (show i < n by omega), Option.bind_some, lrow_len, ck_nat (show n - 1 - i < n by omega), lrow_st _ (show n - 1 - i < n by omega), Option.bind_some, wi64 (by omega)]
  congr 4
  refine lrow_ext fun j hj => ?_
  simp only [g]
  by_cases e2 : j = n - 1 - i
  ·subst e2
   rw [Nat.beq_refl, cond_true, if_neg (by omega), if_pos (by omega), show n - 1 - (n - 1 - i) = i by omega]
  ·rw [nbeq e2, cond_false]
   by_cases e3 : j = i
   ·subst e3
    rw [Nat.beq_refl, cond_true, if_neg (by omega), if_pos (by omega)]
   ·rw [nbeq e3, cond_false]
    by_cases h : j < i ∨ n - i ≤ j
    ·rw [if_pos h, if_pos (by omega)]
    ·rw [if_neg h, if_neg (by omega)]
 ·simp only
  unfold word_Text_s2
  rw [decide_eq_false (show ¬ ((n / 2 : Nat) : Int) < ((n / 2 : Nat) : Int) by omega), cond_false]
  have : lrow n (g (n / 2)) = l.reverse := by
   have hr := lrow_of l.reverse (0 : Int)
   rw [List.length_reverse, hn] at hr
   rw [hr]
   refine lrow_ext fun j hj => ?_
   simp only [g]
   have hrv : l.reverse.getD j 0 = l.getD (n - 1 - j) 0 := by
    simp only [List.getD, List.getElem?_reverse (show j < l.length by omega), hn]
   rw [hrv]
   by_cases h : j < n / 2 ∨ n - n / 2 ≤ j
   ·rw [if_pos h]
   ·rw [if_neg h, show n - 1 - j = j by omega]
  rw [this]

theorem word_Text_ok {w b : Nat} (hw : w < 340282366920938463463374607431768211456) (hb : 2 ≤ b) (hb2 : b ≤ 16) : word_Text (wp w) (b : Int) = some ((text b w, ()), ()) := by
 unfold word_Text word_based
 have hlen := D_len hb 127 w hw
 simp only [decide_eq_true (show (b : Int) ≥ 2 by omega), gsome, cond_true, Option.bind_some, decide_eq_true (show (b : Int) ≤ 16 by omega), Bool.not_true, cond_false]
 refine loop_meas (fun z => ∃ w' l, w' ≤ w ∧ Sofar b w w' l ∧ z = (((b : Int), l.map chr, ()), wp w', ())) (fun z => (z.2.1.1.toNat * 18446744073709551616 + z.2.1.2.1.toNat) + (if z.1.2.1 = [] then 1 else 0)) ?_ ⟨w, [], Nat.le_refl _, by unfold Sofar; rw [if_neg (by simp)]; rfl, rfl⟩
 rintro _ ⟨w', l, hle, hS, rfl⟩
 have hl := hS.len
 simp only
 unfold word_Text_s0
 have hz : (decide ((wp w').1 = 0) && decide ((wp w').2.1 = 0)) = decide (w' = 0) := by
  unfold wp
  simp only
  by_cases h : w' = 0
  ·subst h; rfl
  ·rw [decide_eq_false h]
   by_cases h1 : ((w' / 18446744073709551616 : Nat) : Int) = 0
   ·rw [decide_eq_true h1, decide_eq_false (by omega)]; rfl
   ·rw [decide_eq_false h1]; rfl
 have hd := word_Div_ok (a := w') (d := b) (by omega) (by omega) (by omega)
 have hdm := Nat.mod_lt w' (show 0 < b by omega)
 have hstep : (word_Div ((wp w').1, (wp w').2.1, ()) (IntKind.u64.wrap (b : Int))).bind (fun r_7 =>
  (rdI ([48, 49, 50, 51, 52, 53, 54, 55, 56, 57, 97, 98, 99, 100, 101, 102] : List Int) r_7.1.2.1).bind fun v_8 =>
  (roomI 1 (l.map chr) [v_8]).bind fun v_9 =>
  (some (.inl (((b : Int), v_9, ()), r_7.1.1, ())) : Option (((Int × (List Int) × Unit) × ((Int × Int × Unit) × Unit)) ⊕ (((List Int) × Unit) × (Unit))))) = some (.inl (((b : Int), (l ++ [w' % b]).map chr, ()), wp (w' / b), ())) := by
  rw [wu64 (by omega), show word_Div ((wp w').1, (wp w').2.1, ()) (b : Int) = _ from hd, Option.bind_some]
  dsimp only
  rw [hex_rd _ (by omega), Option.bind_some]
  unfold roomI
  rw [if_pos (by simp; omega), Option.bind_some, List.map_append]
  rfl
 have hmeas : ∀ c : Nat, (wp c).1.toNat * 18446744073709551616 + (wp c).2.1.toNat = c := fun c => by unfold wp; simp only [Int.toNat_natCast]; omega
 simp only [hz, gsome]
 by_cases h : w' = 0 ∧ l ≠ []
 ·left
  obtain ⟨rfl, h2⟩ := h
  have hne : ¬ ((l.map chr).length : Int) = 0 := by
   cases l with
   | nil => exact absurd rfl h2
   | cons x l => simp; omega
  simp only [decide_true, Bool.not_true, Bool.not_false, cond_true, cond_false, decide_eq_false hne]
  rw [rev_ok _ (by simp; omega)]
  have : l = D b w := by
   have := hS
   unfold Sofar at this
   rw [if_pos ⟨rfl, h2⟩, List.append_nil] at this
   exact this
  rw [this]
  rfl
 ·right
  have hc : (bif !decide (w' = 0) then true else (bif !!decide (w' = 0) then decide ((bif !!decide (w' = 0) then ((l.map chr).length : Int) else 0) = 0) else false)) = true := by
   by_cases h1 : w' = 0
   ·have h2 : l = [] := Classical.byContradiction fun h2 => h ⟨h1, h2⟩
    subst h2
    rw [decide_eq_true h1]
    rfl
   ·rw [decide_eq_false h1]
    rfl
  rw [hc, cond_true, hstep]
  refine ⟨_, rfl, ⟨w' / b, l ++ [w' % b], Nat.le_trans (Nat.div_le_self _ _) hle, hS.step hb h, rfl⟩, ?_⟩
  simp only [hmeas]
  rw [if_neg (by simp)]
  by_cases h1 : w' = 0
  ·have h2 : l = [] := Classical.byContradiction fun h2 => h ⟨h1, h2⟩
   subst h1; subst h2
   simp
  ·have := Nat.div_lt_self (show 0 < w' by omega) (show 1 < b by omega)
   omega

theorem ref01_Text_ok {w b : Nat} (hw : w < 340282366920938463463374607431768211456) (hb : 2 ≤ b) (hb2 : b ≤ 16) : ref01_Text (rowB (BitVec.ofNat 128 w)) (b : Int) = some ((text b w, ()), ()) := by
 unfold ref01_Text
 have hlen := D_len hb 127 w hw
 refine loop_meas (fun z => ∃ w' l, w' ≤ w ∧ Sofar b w w' l ∧ z = (((b : Int), (l.map chr).reverse, ()), rowB (BitVec.ofNat 128 w'), ())) (fun z => 129 - z.1.2.1.length) ?_ ⟨w, [], Nat.le_refl _, by unfold Sofar; rw [if_neg (by simp)]; rfl, rfl⟩
 rintro _ ⟨w', l, hle, hS, rfl⟩
 have hl := hS.len
 have hw' : w' < 2 ^ 128 := by omega
 simp only
 unfold ref01_Text_s0
 rw [ref01_Len_ok, BitVec.toNat_ofNat, Nat.mod_eq_of_lt hw', Option.bind_some]
 have hlz : decide (((bitLen w' : Nat) : Int) > 0) = !decide (w' = 0) := by
  by_cases h : w' = 0
  ·subst h; rfl
  ·rw [decide_eq_false h, decide_eq_true]
   ·rfl
   ·unfold bitLen; rw [if_neg h]; omega
 simp only [hlz, gsome]
 have hdm := Nat.mod_lt w' (show 0 < b by omega)
 have hstep : (ref01_small (b : Int)).bind (fun r_5 => (ref01_Part (rowB (BitVec.ofNat 128 w')) r_5.1.1).bind fun r_6 => (ref01_Halves r_6.1.2.1).bind fun r_7 =>
  (subL ([48, 49, 50, 51, 52, 53, 54, 55, 56, 57, 97, 98, 99, 100, 101, 102] : List Int) r_7.1.2.1 (IntKind.u64.wrap (r_7.1.2.1 + 1))).bind fun v_9 => (catI v_9 (l.map chr).reverse).bind fun v_10 =>
  (some (.inl (((b : Int), v_10, ()), r_6.1.1, ())) : Option (((Int × (List Int) × Unit) × ((List Bool) × Unit)) ⊕ (((List Int) × Unit) × (Unit))))) = some (.inl (((b : Int), ((l ++ [w' % b]).map chr).reverse, ()), rowB (BitVec.ofNat 128 (w' / b)), ())) := by
  rw [ref01_small_ok (by omega), Option.bind_some]
  dsimp only
  rw [ref01_Part_ok _ _ (by rw [BitVec.toNat_ofNat]; omega), Option.bind_some]
  dsimp only
  rw [BitVec.toNat_ofNat, BitVec.toNat_ofNat, Nat.mod_eq_of_lt hw', Nat.mod_eq_of_lt (show b < 2 ^ 128 by omega)]
  have hh := ref01_Halves_ok (hi := 0) (lo := w' % b) (by omega) (by omega)
  have hwd : wd 0 (w' % b) = BitVec.ofNat 128 (w' % b) := by simp [wd]
  rw [hwd] at hh
  rw [hh, Option.bind_some]
  dsimp only
  have hsub : subL ([48, 49, 50, 51, 52, 53, 54, 55, 56, 57, 97, 98, 99, 100, 101, 102] : List Int) ((w' % b : Nat) : Int) (IntKind.u64.wrap (((w' % b : Nat) : Int) + 1)) = some [chr (w' % b)] := by
   have : ∀ n : Fin 16, subL ([48, 49, 50, 51, 52, 53, 54, 55, 56, 57, 97, 98, 99, 100, 101, 102] : List Int) ((n.val : Nat) : Int) (IntKind.u64.wrap (((n.val : Nat) : Int) + 1)) = some [chr n.val] := by decide
   exact this ⟨w' % b, by omega⟩
  rw [hsub, Option.bind_some]
  unfold catI
  rw [if_pos (by simp; omega), Option.bind_some, List.map_append, List.reverse_append]
  rfl
 by_cases h : w' = 0 ∧ l ≠ []
 ·left
  obtain ⟨rfl, h2⟩ := h
  have hne : ¬ (l.map chr).reverse = [] := by simpa using h2
  simp only [decide_true, Bool.not_true, Bool.not_false, cond_true, cond_false, decide_eq_false hne]
  have : l = D b w := by
   have := hS
   unfold Sofar at this
   rw [if_pos ⟨rfl, h2⟩, List.append_nil] at this
   exact this
  rw [this]
  rfl
 ·right
  have hc : (bif !decide (w' = 0) then true else (bif !!decide (w' = 0) then decide ((l.map chr).reverse = []) else false)) = true := by
   by_cases h1 : w' = 0
   ·have h2 : l = [] := Classical.byContradiction fun h2 => h ⟨h1, h2⟩
    subst h2
    rw [decide_eq_true h1]
    rfl
   ·rw [decide_eq_false h1]
    rfl
  rw [hc, cond_true, hstep]
  refine ⟨_, rfl, ⟨w' / b, l ++ [w' % b], Nat.le_trans (Nat.div_le_self _ _) hle, hS.step hb h, rfl⟩, ?_⟩
  have := (hS.step hb h).len
  simp only [List.length_reverse, List.length_map, List.length_append, List.length_singleton] at this ⊢
  omega

end Go.L

namespace Go.L
open Go Go.Pv
set_option maxRecDepth 100000

theorem u64_bv {z : Nat} (hz : z < 18446744073709551616) {b : BitVec 64} (h : ∀ i, i < 64 → b.getLsbD i = z.testBit i) : IntKind.u64.wrap (b.toNat : Int) = (z : Int) := by
 have : b = BitVec.ofNat 64 z := by
  apply BitVec.eq_of_getLsbD_eq
  intro i hi
  rw [h i hi, BitVec.getLsbD_ofNat]
  simp [hi]
 rw [this, BitVec.toNat_ofNat, Nat.mod_eq_of_lt (show z < 2 ^ 64 by omega), wu64 hz]

theorem and64 {x y : Nat} (hx : x < 18446744073709551616) (hy : y < 18446744073709551616) : bitsI .and .u64 (x : Int) (y : Int) = ((x &&& y : Nat) : Int) := by
 change IntKind.u64.wrap ((BitVec.ofInt 64 (x : Int) &&& BitVec.ofInt 64 (y : Int)).toNat : Int) = _
 rw [BitVec.ofInt_natCast, BitVec.ofInt_natCast]
 exact u64_bv (Nat.and_lt_two_pow (n := 64) x hy) fun i hi => by simp only [BitVec.getLsbD_and, BitVec.getLsbD_or, BitVec.getLsbD_xor, BitVec.getLsbD_ofNat, hi, decide_true, Bool.true_and, Nat.testBit_and, Nat.testBit_or, Nat.testBit_xor]

theorem or64 {x y : Nat} (hx : x < 18446744073709551616) (hy : y < 18446744073709551616) : bitsI .or .u64 (x : Int) (y : Int) = ((x ||| y : Nat) : Int) := by
 change IntKind.u64.wrap ((BitVec.ofInt 64 (x : Int) ||| BitVec.ofInt 64 (y : Int)).toNat : Int) = _
 rw [BitVec.ofInt_natCast, BitVec.ofInt_natCast]
 exact u64_bv (Nat.or_lt_two_pow (n := 64) hx hy) fun i hi => by simp only [BitVec.getLsbD_and, BitVec.getLsbD_or, BitVec.getLsbD_xor, BitVec.getLsbD_ofNat, hi, decide_true, Bool.true_and, Nat.testBit_and, Nat.testBit_or, Nat.testBit_xor]

theorem xor64 {x y : Nat} (hx : x < 18446744073709551616) (hy : y < 18446744073709551616) : bitsI .xor .u64 (x : Int) (y : Int) = ((x ^^^ y : Nat) : Int) := by
 change IntKind.u64.wrap ((BitVec.ofInt 64 (x : Int) ^^^ BitVec.ofInt 64 (y : Int)).toNat : Int) = _
 rw [BitVec.ofInt_natCast, BitVec.ofInt_natCast]
 exact u64_bv (Nat.xor_lt_two_pow (n := 64) hx hy) fun i hi => by simp only [BitVec.getLsbD_and, BitVec.getLsbD_or, BitVec.getLsbD_xor, BitVec.getLsbD_ofNat, hi, decide_true, Bool.true_and, Nat.testBit_and, Nat.testBit_or, Nat.testBit_xor]

theorem wp_half (f : Bool → Bool → Bool) (hf : f false false = false) (g : Nat → Nat → Nat) (hg : ∀ x y i, (g x y).testBit i = f (x.testBit i) (y.testBit i)) (a b : Nat) :
  g a b / 18446744073709551616 = g (a / 18446744073709551616) (b / 18446744073709551616) ∧ g a b % 18446744073709551616 = g (a % 18446744073709551616) (b % 18446744073709551616) := by
 constructor
 ·apply Nat.eq_of_testBit_eq
  intro i
  rw [show 18446744073709551616 = 2 ^ 64 from rfl, Nat.testBit_div_two_pow, hg, hg, Nat.testBit_div_two_pow, Nat.testBit_div_two_pow]
 ·apply Nat.eq_of_testBit_eq
  intro i
  rw [show 18446744073709551616 = 2 ^ 64 from rfl, Nat.testBit_mod_two_pow, hg, hg, Nat.testBit_mod_two_pow, Nat.testBit_mod_two_pow]
  by_cases h : i < 64
  ·simp [h]
  ·simp [h, hf]

theorem word_And_ok {a b : Nat} (ha : a < 340282366920938463463374607431768211456) (hb : b < 340282366920938463463374607431768211456) : word_And (wp a) (wp b) = some ((wp (a &&& b), ()), ()) := by
 obtain ⟨h1, h2⟩ := wp_half and rfl (· &&& ·) (fun x y i => Nat.testBit_and x y i) a b
 unfold word_And wp
 dsimp only
 rw [and64 (by omega) (by omega), and64 (by omega) (by omega)]
 rw [h1, h2]

theorem not64 {x : Nat} (hx : x < 18446744073709551616) : bitsI .xor .u64 IntKind.u64.max (x : Int) = ((18446744073709551615 - x : Nat) : Int) := by
 have hm : IntKind.u64.max = ((18446744073709551615 : Nat) : Int) := by decide
 rw [hm, xor64 (by omega) hx]
 congr 1
 apply Nat.eq_of_testBit_eq
 intro i
 rw [Nat.testBit_xor]
 have h := Nat.testBit_two_pow_sub_succ (n := 64) (x := x) (by omega) i
 rw [show 2 ^ 64 - (x + 1) = 18446744073709551615 - x by omega] at h
 rw [h]
 have h2 := Nat.testBit_two_pow_sub_one 64 i
 rw [show 2 ^ 64 - 1 = 18446744073709551615 from rfl] at h2
 rw [h2]
 by_cases hi : i < 64
 ·simp [hi]
 ·simp [hi]
  exact Nat.testBit_lt_two_pow (Nat.lt_of_lt_of_le hx (by rw [show 18446744073709551616 = 2 ^ 64 from rfl]; exact Nat.pow_le_pow_right (by omega) (by omega)))

theorem word_Not_ok {a : Nat} (ha : a < 340282366920938463463374607431768211456) : word_Not (wp a) = some ((wp (340282366920938463463374607431768211455 - a), ()), ()) := by
 unfold word_Not wp
 dsimp only
 rw [not64 (by omega), not64 (by omega)]
 refine congrArg some (Prod.ext (Prod.ext (Prod.ext ?_ (Prod.ext ?_ rfl)) rfl) rfl)
 ·dsimp only; omega
 ·dsimp only; omega

theorem shl64 {n k : Nat} (hk : k ≤ 64) : shlI .u64 (n : Int) (k : Int) = some (((n * 2 ^ k % 18446744073709551616 : Nat) : Int)) := by rw [shl_ok, Nat.min_eq_left hk]
theorem shr64 {n k : Nat} (hk : k ≤ 64) : shrI .u64 (n : Int) (k : Int) = some (((n / 2 ^ k : Nat) : Int)) := by rw [shr_ok, Nat.min_eq_left hk]

theorem pow_split {n : Nat} (h : n ≤ 64) : 2 ^ n * 2 ^ (64 - n) = 18446744073709551616 := by rw [← Nat.pow_add, show n + (64 - n) = 64 by omega]

theorem mod_div_pow (lo n : Nat) (h : n ≤ 64) (hlo : lo < 18446744073709551616) : lo * 2 ^ n / 18446744073709551616 = lo / 2 ^ (64 - n) := by
 rw [← pow_split h, Nat.mul_comm (2 ^ n), Nat.mul_div_mul_right _ _ (Nat.two_pow_pos n)]

theorem shl_g_ok {F G : (Int × Int × Unit) → Int → Option (((Int × Int × Unit) × Unit) × (Unit))} {a n : Nat} (ha : a < 340282366920938463463374607431768211456) : word_Shl_g F G (wp a) (n : Int) = some ((wp (if n < 128 then a * 2 ^ n % 340282366920938463463374607431768211456 else 0), ()), ()) := by
 unfold word_Shl_g
 have hpa : ((wp a).1, (wp a).2.1, ()) = wp a := rfl
 simp only [gsome, decide_eq_false (show ¬ (n : Int) ≤ -128 by omega), Bool.not_false, cond_true, cond_false, decide_eq_false (show ¬ (n : Int) < 0 by omega)]
 by_cases h128 : n < 128
 ·rw [decide_eq_false (show ¬ (n : Int) ≥ 128 by omega), cond_false, if_pos h128]
  by_cases h0 : n = 0
  ·subst h0
   rw [decide_eq_true (show ((0 : Nat) : Int) = 0 from rfl), cond_true, Nat.pow_zero, Nat.mul_one, Nat.mod_eq_of_lt ha]
  ·rw [decide_eq_false (show ¬ (n : Int) = 0 by omega), cond_false]
   by_cases h64 : 64 ≤ n
   ·rw [decide_eq_true (show (n : Int) ≥ 64 by omega), cond_true, show IntKind.i64.wrap ((n : Int) - 64) = ((n - 64 : Nat) : Int) by rw [wrap_i64 (by omega) (by omega)]; omega]
    unfold wp
    dsimp only
    rw [shl64 (by omega), Option.bind_some]
    have e : a * 2 ^ n = a * 2 ^ (n - 64) * 18446744073709551616 := by
     rw [show 18446744073709551616 = 2 ^ 64 from rfl, Nat.mul_assoc, ← Nat.pow_add, Nat.sub_add_cancel h64]
    rw [e]
    have e2 : a % 18446744073709551616 * 2 ^ (n - 64) % 18446744073709551616 = a * 2 ^ (n - 64) % 18446744073709551616 := Nat.mod_mul_mod a (2 ^ (n - 64)) 18446744073709551616
    rw [e2]
    generalize a * 2 ^ (n - 64) = m
    refine congrArg some (Prod.ext (Prod.ext (Prod.ext ?_ (Prod.ext ?_ rfl)) rfl) rfl)
    ·dsimp only; first | done | omega
    ·dsimp only; first | done | omega
   ·rw [decide_eq_false (show ¬ (n : Int) ≥ 64 by omega), cond_false, show IntKind.i64.wrap (64 - (n : Int)) = ((64 - n : Nat) : Int) by rw [wrap_i64 (by omega) (by omega)]; omega]
    unfold wp
    dsimp only
    rw [shl64 (by omega), Option.bind_some, shr64 (by omega), Option.bind_some, shl64 (by omega), Option.bind_some]
    have hlo : a % 18446744073709551616 < 18446744073709551616 := Nat.mod_lt _ (by omega)
    have hs : a * 2 ^ n = a / 18446744073709551616 * 2 ^ n * 18446744073709551616 + a % 18446744073709551616 * 2 ^ n := by
     have : a = a / 18446744073709551616 * 18446744073709551616 + a % 18446744073709551616 := by omega
     rw [show a * 2 ^ n = (a / 18446744073709551616 * 18446744073709551616 + a % 18446744073709551616) * 2 ^ n by rw [← this], Nat.add_mul, Nat.mul_right_comm]
    have hd := mod_div_pow (a % 18446744073709551616) n (by omega) hlo
    have hlt : a % 18446744073709551616 / 2 ^ (64 - n) < 2 ^ n := by
     refine (Nat.div_lt_iff_lt_mul (Nat.two_pow_pos _)).2 ?_
     rw [pow_split (by omega)]; exact hlo
    have hmz : a / 18446744073709551616 * 2 ^ n % 18446744073709551616 % 2 ^ n = 0 := by
     rw [← pow_split (show n ≤ 64 by omega), Nat.mod_mul_right_mod, Nat.mul_mod_left]
    have hle : a / 18446744073709551616 * 2 ^ n % 18446744073709551616 + a % 18446744073709551616 / 2 ^ (64 - n) < 18446744073709551616 := by
     have h1 : a / 18446744073709551616 * 2 ^ n % 18446744073709551616 = 2 ^ n * (a / 18446744073709551616 % 2 ^ (64 - n)) := by
      rw [← pow_split (show n ≤ 64 by omega), Nat.mul_comm (a / (2 ^ n * 2 ^ (64 - n))) (2 ^ n), Nat.mul_mod_mul_left]
     have h2 : a / 18446744073709551616 % 2 ^ (64 - n) + 1 ≤ 2 ^ (64 - n) := Nat.mod_lt _ (Nat.two_pow_pos _)
     have h3 := Nat.mul_le_mul_left (2 ^ n) h2
     rw [pow_split (by omega), Nat.mul_add, Nat.mul_one, ← h1] at h3
     omega
    rw [or_add hmz hlt hle, hs, ← hd]
    generalize a / 18446744073709551616 * 2 ^ n = p at *
    generalize a % 18446744073709551616 * 2 ^ n = q at *
    clear hmz hlt hs hpa
    refine congrArg some (Prod.ext (Prod.ext (Prod.ext ?_ (Prod.ext ?_ rfl)) rfl) rfl)
    ·dsimp only; omega
    ·dsimp only; omega
 ·rw [decide_eq_true (show (n : Int) ≥ 128 by omega), cond_true, if_neg h128]
  rfl

theorem shr_g_ok {F G : (Int × Int × Unit) → Int → Option (((Int × Int × Unit) × Unit) × (Unit))} {a n : Nat} (ha : a < 340282366920938463463374607431768211456) : word_Shr_g F G (wp a) (n : Int) = some ((wp (a / 2 ^ n), ()), ()) := by
 unfold word_Shr_g
 simp only [gsome, decide_eq_false (show ¬ (n : Int) ≤ -128 by omega), Bool.not_false, cond_true, cond_false, decide_eq_false (show ¬ (n : Int) < 0 by omega)]
 by_cases h128 : n < 128
 ·rw [decide_eq_false (show ¬ (n : Int) ≥ 128 by omega), cond_false]
  by_cases h0 : n = 0
  ·subst h0
   rw [decide_eq_true (show ((0 : Nat) : Int) = 0 from rfl), cond_true, Nat.pow_zero, Nat.div_one]
  ·rw [decide_eq_false (show ¬ (n : Int) = 0 by omega), cond_false]
   by_cases h64 : 64 ≤ n
   ·rw [decide_eq_true (show (n : Int) ≥ 64 by omega), cond_true, show IntKind.i64.wrap ((n : Int) - 64) = ((n - 64 : Nat) : Int) by rw [wrap_i64 (by omega) (by omega)]; omega]
    unfold wp
    dsimp only
    rw [shr64 (by omega), Option.bind_some]
    have e : a / 2 ^ n = a / 18446744073709551616 / 2 ^ (n - 64) := by
     rw [show 18446744073709551616 = 2 ^ 64 from rfl, Nat.div_div_eq_div_mul, ← Nat.pow_add, show 64 + (n - 64) = n by omega]
    have hlt : a / 2 ^ n < 18446744073709551616 := by rw [e]; exact Nat.lt_of_le_of_lt (Nat.div_le_self _ _) (by omega)
    rw [← e]
    generalize a / 2 ^ n = m at *
    refine congrArg some (Prod.ext (Prod.ext (Prod.ext ?_ (Prod.ext ?_ rfl)) rfl) rfl)
    ·dsimp only; first | done | omega
    ·dsimp only; first | done | omega
   ·rw [decide_eq_false (show ¬ (n : Int) ≥ 64 by omega), cond_false, show IntKind.i64.wrap (64 - (n : Int)) = ((64 - n : Nat) : Int) by rw [wrap_i64 (by omega) (by omega)]; omega]
    unfold wp
    dsimp only
    rw [shr64 (by omega), Option.bind_some, shr64 (by omega), Option.bind_some, shl64 (by omega), Option.bind_some]
    have hp := Nat.two_pow_pos n
    have hq := Nat.two_pow_pos (64 - n)
    have hsp := pow_split (show n ≤ 64 by omega)
    have hl1 : a % 18446744073709551616 / 2 ^ n < 2 ^ (64 - n) := (Nat.div_lt_iff_lt_mul hp).2 (by rw [Nat.mul_comm, hsp]; exact Nat.mod_lt _ (by omega))
    have hm : a / 18446744073709551616 * 2 ^ (64 - n) % 18446744073709551616 = 2 ^ (64 - n) * (a / 18446744073709551616 % 2 ^ n) := by
     rw [← hsp, Nat.mul_comm (2 ^ n), Nat.mul_comm (a / (2 ^ (64 - n) * 2 ^ n)), Nat.mul_mod_mul_left]
    have hsum : 2 ^ (64 - n) * (a / 18446744073709551616 % 2 ^ n) + a % 18446744073709551616 / 2 ^ n < 18446744073709551616 := by
     have h2 : a / 18446744073709551616 % 2 ^ n + 1 ≤ 2 ^ n := Nat.mod_lt _ hp
     have h3 := Nat.mul_le_mul_left (2 ^ (64 - n)) h2
     rw [Nat.mul_comm (2 ^ (64 - n)) (2 ^ n), hsp, Nat.mul_add, Nat.mul_one] at h3
     omega
    have hor : bitsI .or .u64 ((a % 18446744073709551616 / 2 ^ n : Nat) : Int) ((a / 18446744073709551616 * 2 ^ (64 - n) % 18446744073709551616 : Nat) : Int) = ((2 ^ (64 - n) * (a / 18446744073709551616 % 2 ^ n) + a % 18446744073709551616 / 2 ^ n : Nat) : Int) := by
     rw [hm]
     have := or_add (a := 2 ^ (64 - n) * (a / 18446744073709551616 % 2 ^ n)) (b := a % 18446744073709551616 / 2 ^ n) (s := 64 - n) (Nat.mul_mod_right _ _) hl1 hsum
     rw [← this, or64 (by omega) (by omega), or64 (by omega) (by omega), Nat.or_comm]
    rw [hor]
    have hval : a / 2 ^ n = a / 18446744073709551616 / 2 ^ n * 18446744073709551616 + (2 ^ (64 - n) * (a / 18446744073709551616 % 2 ^ n) + a % 18446744073709551616 / 2 ^ n) := by
     have h1 : a = 18446744073709551616 * (a / 18446744073709551616) + a % 18446744073709551616 := by omega
     have h2 := Nat.div_add_mod (a / 18446744073709551616) (2 ^ n)
     have h3 := Nat.div_add_mod (a % 18446744073709551616) (2 ^ n)
     have hr := Nat.mod_lt (a % 18446744073709551616) hp
     refine ((Nat.div_mod_unique (a := a) (c := a % 18446744073709551616 % 2 ^ n) hp).2 ⟨?_, hr⟩).1
     generalize a / 18446744073709551616 = A at *
     generalize a % 18446744073709551616 = B at *
     rw [Nat.mul_add, Nat.mul_add, ← Nat.mul_assoc (2 ^ n) (2 ^ (64 - n)), hsp, ← Nat.mul_assoc]
     generalize 2 ^ n * (A / 2 ^ n) = p at *
     generalize 2 ^ n * (B / 2 ^ n) = q at *
     omega
    rw [hval]
    generalize 2 ^ (64 - n) * (a / 18446744073709551616 % 2 ^ n) + a % 18446744073709551616 / 2 ^ n = q at *
    generalize a / 18446744073709551616 / 2 ^ n = p at *
    clear hor hm hval hl1 hsp
    refine congrArg some (Prod.ext (Prod.ext (Prod.ext ?_ (Prod.ext ?_ rfl)) rfl) rfl)
    ·dsimp only; omega
    ·dsimp only; omega
 ·rw [decide_eq_true (show (n : Int) ≥ 128 by omega), cond_true, Nat.div_eq_of_lt (Nat.lt_of_lt_of_le ha (by rw [show 340282366920938463463374607431768211456 = 2 ^ 128 from rfl]; exact Nat.pow_le_pow_right (by omega) (by omega)))]
  rfl

def moved (a : Nat) (n : Int) : Nat := if 0 ≤ n then (if n < 128 then a * 2 ^ n.toNat % 340282366920938463463374607431768211456 else 0) else a / 2 ^ (-n).toNat

end Go.L

namespace Go.L
open Go Go.Pv
set_option maxRecDepth 100000

theorem div_big {a n : Nat} (ha : a < 340282366920938463463374607431768211456) (h : 128 ≤ n) : a / 2 ^ n = 0 :=
 Nat.div_eq_of_lt (Nat.lt_of_lt_of_le ha (by rw [show 340282366920938463463374607431768211456 = 2 ^ 128 from rfl]; exact Nat.pow_le_pow_right (by omega) h))

theorem moved_lt {a : Nat} (ha : a < 340282366920938463463374607431768211456) (n : Int) : moved a n < 340282366920938463463374607431768211456 := by
 unfold moved
 split
 ·split
  ·exact Nat.mod_lt _ (by omega)
  ·omega
 ·exact Nat.lt_of_le_of_lt (Nat.div_le_self _ _) ha

theorem shl_g_neg {F G : (Int × Int × Unit) → Int → Option (((Int × Int × Unit) × Unit) × (Unit))} {a : Nat} {n : Int} (ha : a < 340282366920938463463374607431768211456) (hn : n < 0) (hG : ∀ k : Nat, G (wp a) (k : Int) = some ((wp (a / 2 ^ k), ()), ())) : word_Shl_g F G (wp a) n = some ((wp (a / 2 ^ (-n).toNat), ()), ()) := by
 have hpa : ((wp a).1, (wp a).2.1, ()) = wp a := rfl
 unfold word_Shl_g
 simp only [gsome]
 by_cases h : n ≤ -128
 ·rw [decide_eq_true h, cond_true, cond_true, div_big ha (by omega)]
  rfl
 ·rw [decide_eq_false h, Bool.not_false, cond_true, cond_false, decide_eq_false (show ¬ n ≥ 128 by omega), cond_false, decide_eq_true hn, cond_true, hpa, show IntKind.i64.wrap (0 - n) = (((-n).toNat : Nat) : Int) by rw [wrap_i64 (by omega) (by omega)]; omega, hG]
  rfl

theorem shr_g_neg {F G : (Int × Int × Unit) → Int → Option (((Int × Int × Unit) × Unit) × (Unit))} {a : Nat} {n : Int} (hn : n < 0) (hF : ∀ k : Nat, F (wp a) (k : Int) = some ((wp (if k < 128 then a * 2 ^ k % 340282366920938463463374607431768211456 else 0), ()), ())) : word_Shr_g F G (wp a) n = some ((wp (if -n < 128 then a * 2 ^ (-n).toNat % 340282366920938463463374607431768211456 else 0), ()), ()) := by
 have hpa : ((wp a).1, (wp a).2.1, ()) = wp a := rfl
 unfold word_Shr_g
 simp only [gsome]
 by_cases h : n ≤ -128
 ·rw [decide_eq_true h, cond_true, cond_true, if_neg (by omega)]
  rfl
 ·rw [decide_eq_false h, Bool.not_false, cond_true, cond_false, decide_eq_false (show ¬ n ≥ 128 by omega), cond_false, decide_eq_true hn, cond_true, hpa, show IntKind.i64.wrap (0 - n) = (((-n).toNat : Nat) : Int) by rw [wrap_i64 (by omega) (by omega)]; omega, hF, if_pos (show (-n).toNat < 128 by omega), if_pos (show -n < 128 by omega)]
  rfl

theorem word_Shl_ok {a : Nat} {n : Int} (ha : a < 340282366920938463463374607431768211456) : word_Shl (wp a) n = some ((wp (moved a n), ()), ()) := by
 show word_Shl_g (word_Shr_lv 2).1 (word_Shr_g (word_Shr_lv 1).1 (word_Shr_lv 1).2) (wp a) n = _
 unfold moved
 by_cases h : 0 ≤ n
 ·obtain ⟨k, rfl⟩ : ∃ k : Nat, n = k := ⟨n.toNat, by omega⟩
  rw [shl_g_ok ha, if_pos h, Int.toNat_natCast]
  by_cases h2 : k < 128
  ·rw [if_pos h2, if_pos (by omega)]
  ·rw [if_neg h2, if_neg (by omega)]
 ·rw [if_neg h, shl_g_neg ha (by omega) fun k => shr_g_ok ha]

theorem word_Shr_ok {a : Nat} {n : Int} (ha : a < 340282366920938463463374607431768211456) : word_Shr (wp a) n = some ((wp (moved a (-n)), ()), ()) := by
 show word_Shr_g (word_Shl_g (word_Shr_lv 1).1 (word_Shr_lv 1).2) (word_Shr_lv 2).2 (wp a) n = _
 unfold moved
 by_cases h : n < 0
 ·rw [shr_g_neg h fun k => shl_g_ok ha, if_pos (show 0 ≤ -n by omega)]
 ·obtain ⟨k, rfl⟩ : ∃ k : Nat, n = k := ⟨n.toNat, by omega⟩
  rw [shr_g_ok ha]
  by_cases h2 : k = 0
  ·subst h2
   rw [if_pos (by omega), if_pos (by omega), show (-((0 : Nat) : Int)).toNat = 0 by omega, Nat.pow_zero, Nat.mul_one, Nat.div_one, Nat.mod_eq_of_lt ha]
  ·rw [if_neg (by omega), show (-(-(k : Int))).toNat = k by omega]

theorem wp0 : ((0, 0, ()) : Int × Int × Unit) = wp 0 := rfl
theorem wp1 : ((0, 1, ()) : Int × Int × Unit) = wp 1 := rfl

theorem word_Ones_ok {n : Int} : word_Ones n = some ((wp (2 ^ min n.toNat 128 - 1), ()), ()) := by
 unfold word_Ones
 by_cases h : n ≤ 0
 ·rw [decide_eq_true h, cond_true, show n.toNat = 0 by omega]
  rfl
 ·rw [decide_eq_false h, cond_false]
  by_cases h2 : n ≥ 128
  ·rw [decide_eq_true h2, cond_true, wp0, word_Not_ok (by omega), Nat.min_eq_right (by omega)]
   rfl
  ·rw [decide_eq_false h2, cond_false, wp1, word_Shl_ok (by omega)]
   dsimp only [Option.bind_some]
   have hm : moved 1 n = 2 ^ n.toNat := by
    unfold moved
    rw [if_pos (by omega), if_pos (by omega), Nat.one_mul]
    refine Nat.mod_eq_of_lt ?_
    rw [show 340282366920938463463374607431768211456 = 2 ^ 128 from rfl]
    exact Nat.pow_lt_pow_right (by omega) (by omega)
   rw [word_Sub_ok (moved_lt (by omega) n) (by omega), hm, Nat.min_eq_left (by omega)]
   dsimp only [Option.bind_some]
   have hp := Nat.two_pow_pos n.toNat
   have hl : 2 ^ n.toNat < 340282366920938463463374607431768211456 := by
    rw [← hm]; exact moved_lt (by omega) n
   rw [show (2 ^ n.toNat + (340282366920938463463374607431768211456 - 1)) % 340282366920938463463374607431768211456 = 2 ^ n.toNat - 1 by omega]

theorem wp_eqb (a b : Nat) : (decide ((wp a).1 = (wp b).1) && decide ((wp a).2.1 = (wp b).2.1)) = decide (a = b) := by
 rw [← Bool.decide_and]
 refine decide_eq_decide.2 ⟨fun h => wp_inj (Prod.ext h.1 (Prod.ext h.2 rfl)), fun h => by rw [h]; exact ⟨rfl, rfl⟩⟩

def cmp (a b : Nat) : Int := if a = b then 0 else if a < b then -1 else 1

theorem word_Cmp_ok {a b : Nat} (ha : a < 340282366920938463463374607431768211456) (hb : b < 340282366920938463463374607431768211456) : word_Cmp (wp a) (wp b) = some ((cmp a b, ()), ()) := by
 have hpa : ((wp a).1, (wp a).2.1, ()) = wp a := rfl
 have hpb : ((wp b).1, (wp b).2.1, ()) = wp b := rfl
 unfold word_Cmp cmp
 rw [hpa, hpb, word_Sub_ok ha hb, Option.bind_some, wp_eqb]
 dsimp only
 by_cases h : a = b
 ·rw [decide_eq_true h, cond_true, if_pos h]
 ·rw [decide_eq_false h, cond_false, if_neg h]
  by_cases h2 : a < b
  ·rw [decide_eq_true h2, cond_true, if_pos h2]
  ·rw [decide_eq_false h2, cond_false, if_neg h2]

theorem word_Len_ok {a : Nat} (ha : a < 340282366920938463463374607431768211456) : word_Len (wp a) = some (((bitLen a : Int), ()), ()) := by
 unfold word_Len
 by_cases h : 18446744073709551616 ≤ a
 ·rw [decide_eq_true (show (wp a).1 > 0 by show (((a / 18446744073709551616 : Nat)) : Int) > 0; omega), cond_true]
  show (bits_Len64 ((a / 18446744073709551616 : Nat) : Int)).bind _ = _
  rw [bits_Len64_ok (by omega), Option.bind_some]
  dsimp only
  have h1 := bitLen_shift (n := a) (k := 64) (by rw [show 2 ^ 64 = 18446744073709551616 from rfl]; exact h)
  rw [show 2 ^ 64 = 18446744073709551616 from rfl] at h1
  have h2 : bitLen (a / 18446744073709551616) ≤ 64 := bitLen_le (by rw [show 2 ^ 64 = 18446744073709551616 from rfl]; omega)
  rw [h1, show (64 : Int) + (bitLen (a / 18446744073709551616) : Int) = ((64 : Nat) : Int) + (bitLen (a / 18446744073709551616) : Int) from rfl, wadd (by omega)]
 ·rw [decide_eq_false (show ¬ (wp a).1 > 0 by show ¬ (((a / 18446744073709551616 : Nat)) : Int) > 0; omega), cond_false]
  show (bits_Len64 ((a % 18446744073709551616 : Nat) : Int)).bind _ = _
  rw [Nat.mod_eq_of_lt (by omega), bits_Len64_ok (by omega), Option.bind_some]

end Go.L

namespace Go.L
open Go Go.Pv
set_option maxRecDepth 100000

theorem lrow_succ {α : Type} (n : Nat) (f : Nat → α) : lrow (n + 1) f = lrow n f ++ [f n] := by unfold lrow; rw [List.range_succ, List.map_append]; rfl
theorem roomI_ok {α : Type} {xs ys : List α} (h : xs.length + ys.length ≤ 1000000000) : roomI 1 xs ys = some (xs ++ ys) := by
 unfold roomI
 rw [if_pos (by omega)]

theorem row_w (w : Nat) : rowB (BitVec.ofNat 128 w) = row w.testBit := row_ext fun i hi => by rw [BitVec.getLsbD_ofNat, decide_eq_true hi, Bool.true_and]

def vw (w : Int) (x : Nat) : Int × Int × Int × Unit := (w, (wp x).1, (wp x).2.1, ())

def may (w : Int) (x : Nat) : Bool := decide ((1 ≤ w ∧ w ≤ 128) ∧ (bitLen x : Int) ≤ w)

theorem may_of {w : Int} {x : Nat} (h : may w x = true) : 1 ≤ w ∧ w ≤ 128 ∧ (bitLen x : Int) ≤ w := by
 have := of_decide_eq_true h
 omega

theorem vec_May_ok {w : Int} {x : Nat} (hx : x < 340282366920938463463374607431768211456) : vec_May (vw w x) = some ((may w x, ()), ()) := by
 unfold vec_May vec_width may vw
 simp only [gsome, Option.bind_some]
 by_cases h : 1 ≤ w ∧ w ≤ 128
 ·simp only [decide_eq_true (show w ≥ 1 from h.1), decide_eq_true h.2, cond_true, gtrue]
  show ((vec_Word (w, (wp x).1, (wp x).2.1, ())).bind fun r_3 => (word_Len r_3.1.1).bind fun r_4 => some ((decide (r_4.1.1 ≤ w), ()), ())) = _
  unfold vec_Word
  rw [Option.bind_some]
  show ((word_Len (wp x)).bind fun r_4 => some ((decide (r_4.1.1 ≤ w), ()), ())) = _
  rw [word_Len_ok hx, Option.bind_some]
  congr 3
  exact decide_eq_decide.2 ⟨fun h2 => ⟨h, h2⟩, fun h2 => h2.2⟩
 ·have e : (bif decide (w ≥ 1) then (bif decide (w ≥ 1) then decide (w ≤ 128) else false) else false) = false := by
   by_cases h : w ≥ 1
   ·rw [decide_eq_true h, decide_eq_false (by omega)]; rfl
   ·rw [decide_eq_false h]; rfl
  simp only [e, gfalse, cond_false]
  rw [decide_eq_false (fun h2 => h h2.1)]

theorem ref02_May_ok {w : Int} {x : Nat} (hx : x < 340282366920938463463374607431768211456) : ref02_May (vw w x) = some ((may w x, ()), ()) := by
 unfold ref02_May may vw
 simp only [gsome]
 by_cases h : 1 ≤ w ∧ w ≤ 128
 ·simp only [decide_eq_true (show w ≥ 1 from h.1), decide_eq_true h.2, cond_true, gtrue]
  rw [of_wp hx, Option.bind_some]
  dsimp only
  rw [ref01_Len_ok, Option.bind_some, BitVec.toNat_ofNat, Nat.mod_eq_of_lt (show x < 2 ^ 128 from hx)]
  congr 3
  exact decide_eq_decide.2 ⟨fun h2 => ⟨h, h2⟩, fun h2 => h2.2⟩
 ·have hr : may w x = false := decide_eq_false (fun h2 => h h2.1)
  unfold may at hr
  rw [hr]
  by_cases h1 : w ≥ 1
  ·simp only [decide_eq_true h1, cond_true, decide_eq_false (show ¬ w ≤ 128 by omega), gfalse, cond_false]
  ·simp only [decide_eq_false h1, cond_false, gfalse]

theorem ref02_Bits_ok {w : Int} {x : Nat} (hx : x < 340282366920938463463374607431768211456) : ref02_Bits (vw w x) = some ((lrow (min w 128).toNat x.testBit, ()), ()) := by
 unfold ref02_Bits vw
 dsimp only
 rw [of_wp hx, Option.bind_some]
 dsimp only
 rw [row_w]
 refine loop_up (fun i => (((lrow i x.testBit, (i : Int), ()), (w, (wp x).1, (wp x).2.1, ()), row x.testBit, ()) : ((List Bool) × Int × Unit) × ((Int × Int × Int × Unit) × (List Bool) × Unit))) (min w 128).toNat ?_ ?_ 0 (by omega)
 ·intro i hi
  dsimp only
  unfold ref02_Bits_s0
  simp only [gsome]
  rw [decide_eq_true (show (i : Int) < w by omega), decide_eq_true (show (i : Int) < 128 by omega)]
  simp only [cond_true]
  rw [ck_nat (show i < 128 by omega), row_rd _ (show i < 128 by omega), Option.bind_some, roomI_ok (by rw [lrow_len]; simp only [List.length_cons, List.length_nil]; omega), Option.bind_some, ← lrow_succ, wi64 (by omega)]
 ·dsimp only
  unfold ref02_Bits_s0
  simp only [gsome]
  have e : (bif decide ((((min w 128).toNat : Nat) : Int) < w) then (bif decide ((((min w 128).toNat : Nat) : Int) < w) then decide ((((min w 128).toNat : Nat) : Int) < 128) else false) else false) = false := by
   by_cases h : (((min w 128).toNat : Nat) : Int) < w
   ·rw [decide_eq_true h, decide_eq_false (by omega)]; rfl
   ·rw [decide_eq_false h]; rfl
  rw [e]
  rfl

def be (n m : Nat) : List Int := lrow m fun j => ((n / 2 ^ (8 * (m - 1 - j)) % 256 : Nat) : Int)

def high (n m : Nat) : List Bool := lrow m fun j => n.testBit (m - 1 - j)

end Go.L

namespace Go.L
open Go Go.Pv
set_option maxRecDepth 100000

def nat64 (n : Int) : Nat := (n % 18446744073709551616).toNat

theorem nat64_eq (n : Int) : ((nat64 n : Nat) : Int) = n % 18446744073709551616 := by unfold nat64; omega

def enc (w : Int) (x : Nat) : List Int := bif may w x then w :: be x ((w.toNat + 7) / 8) else [0]

theorem take_succ_getD {α : Type} {l : List α} {i : Nat} (d : α) (h : i < l.length) : l.take (i + 1) = l.take i ++ [l.getD i d] := by
 rw [List.take_succ_eq_append_getElem h]
 simp [List.getD, List.getElem?_eq_getElem h]

def okV (v : Int × Int × Int × Unit) : Prop := inR .u64 v.2.1 = true ∧ inR .u64 v.2.2.1 = true

theorem okV_vw {v : Int × Int × Int × Unit} (h : okV v) : v.2.1.toNat * 18446744073709551616 + v.2.2.1.toNat < 340282366920938463463374607431768211456 ∧ v = vw v.1 (v.2.1.toNat * 18446744073709551616 + v.2.2.1.toNat) := by
 have h1 := u64_of h.1
 have h2 := u64_of h.2
 refine ⟨by omega, ?_⟩
 unfold vw wp
 refine Prod.ext rfl (Prod.ext ?_ (Prod.ext ?_ rfl))
 ·dsimp only
  omega
 ·dsimp only
  omega

theorem map_take {l : List Int} {i : Nat} (h : i < l.length) : (l.take (i + 1)).map IntKind.u8.wrap = (l.take i).map IntKind.u8.wrap ++ [IntKind.u8.wrap (l.getD i 0)] := by
 rw [take_succ_getD 0 h, List.map_append]
 rfl

end Go.L

namespace Go.L
open Go Go.Pv
set_option maxRecDepth 100000

abbrev Flt := Option (Int × Int × Unit)
abbrev Rdr := ((List Int) × Int × Flt × Unit) × Unit
abbrev rd (b : List Int) (at_ : Int) (f : Flt) : Rdr := ((b, at_, f, ()), ())

end Go.L

namespace Go.L
open Go Go.Pv
set_option maxRecDepth 100000

def fstN (a0 a1 a2 a3 n : Nat) : Nat × Nat :=
 if a0 < 128 then (a0, 1)
 else if 194 ≤ a0 ∧ a0 < 224 ∧ 2 ≤ n ∧ 128 ≤ a1 ∧ a1 < 192 then (64 * (a0 - 192) + (a1 - 128), 2)
 else if (224 ≤ a0 ∧ a0 < 240 ∧ 3 ≤ n ∧ 128 ≤ a1 ∧ a1 < 192 ∧ 128 ≤ a2 ∧ a2 < 192) ∧ 2048 ≤ 4096 * (a0 - 224) + 64 * (a1 - 128) + (a2 - 128) ∧ (4096 * (a0 - 224) + 64 * (a1 - 128) + (a2 - 128) < 55296 ∨ 57343 < 4096 * (a0 - 224) + 64 * (a1 - 128) + (a2 - 128)) then (4096 * (a0 - 224) + 64 * (a1 - 128) + (a2 - 128), 3)
 else if (240 ≤ a0 ∧ a0 < 245 ∧ 4 ≤ n ∧ 128 ≤ a1 ∧ a1 < 192 ∧ 128 ≤ a2 ∧ a2 < 192 ∧ 128 ≤ a3 ∧ a3 < 192) ∧ 65536 ≤ 262144 * (a0 - 240) + 4096 * (a1 - 128) + 64 * (a2 - 128) + (a3 - 128) ∧ 262144 * (a0 - 240) + 4096 * (a1 - 128) + 64 * (a2 - 128) + (a3 - 128) ≤ 1114111 then (262144 * (a0 - 240) + 4096 * (a1 - 128) + 64 * (a2 - 128) + (a3 - 128), 4)
 else (65533, 1)

theorem decode_fst {s : ByteArray} {i a0 a1 a2 a3 : Nat} (h0 : (s.get! (i + 0)).toNat = a0) (h1 : (s.get! (i + 1)).toNat = a1) (h2 : (s.get! (i + 2)).toNat = a2) (h3 : (s.get! (i + 3)).toNat = a3) (hi : i < s.size) :
  Utf8.decode s i = fstN a0 a1 a2 a3 (s.size - i) := by
 have b0 := (s.get! (i + 0)).toNat_lt
 have b1 := (s.get! (i + 1)).toNat_lt
 have b2 := (s.get! (i + 2)).toNat_lt
 have b3 := (s.get! (i + 3)).toNat_lt
 rw [h0] at b0
 rw [h1] at b1
 rw [h2] at b2
 rw [h3] at b3
 unfold Utf8.decode fstN
 simp only [h0, h1, h2, h3, Bool.and_eq_true, beq_iff_eq, decide_eq_true_eq, Utf8.valid, Utf8.runeError, Bool.or_eq_true, ge_iff_le]
 by_cases c0 : a0 < 128
 ·rw [if_pos c0, if_pos c0]
 ·rw [if_neg c0, if_neg c0]
  by_cases c1 : 192 ≤ a0 ∧ a0 < 224
  ·rw [if_neg (show ¬ ((224 ≤ a0 ∧ a0 < 240 ∧ 3 ≤ s.size - i ∧ 128 ≤ a1 ∧ a1 < 192 ∧ 128 ≤ a2 ∧ a2 < 192) ∧ _) by omega), if_neg (show ¬ ((240 ≤ a0 ∧ a0 < 245 ∧ 4 ≤ s.size - i ∧ 128 ≤ a1 ∧ a1 < 192 ∧ 128 ≤ a2 ∧ a2 < 192 ∧ 128 ≤ a3 ∧ a3 < 192) ∧ _) by omega)]
   by_cases m1 : 2 ≤ s.size - i ∧ 128 ≤ a1 ∧ a1 < 192
   ·rw [if_pos (by omega)]
    by_cases c2 : 194 ≤ a0
    ·rw [if_pos (by omega), if_pos (by omega)]
     congr 1
     omega
    ·rw [if_neg (by omega), if_neg (by omega)]
   ·rw [if_neg (by omega), if_neg (by omega), if_neg (by omega), if_neg (by omega)]
  ·rw [if_neg (show ¬ (194 ≤ a0 ∧ a0 < 224 ∧ 2 ≤ s.size - i ∧ 128 ≤ a1 ∧ a1 < 192) by omega), if_neg (by omega)]
   by_cases c2 : 224 ≤ a0 ∧ a0 < 240
   ·rw [if_neg (show ¬ ((240 ≤ a0 ∧ a0 < 245 ∧ 4 ≤ s.size - i ∧ 128 ≤ a1 ∧ a1 < 192 ∧ 128 ≤ a2 ∧ a2 < 192 ∧ 128 ≤ a3 ∧ a3 < 192) ∧ _) by omega)]
    by_cases m1 : 3 ≤ s.size - i ∧ 128 ≤ a1 ∧ a1 < 192 ∧ 128 ≤ a2 ∧ a2 < 192
    ·rw [if_pos (by omega)]
     have e : a0 % 16 * 4096 + a1 % 64 * 64 + a2 % 64 = 4096 * (a0 - 224) + 64 * (a1 - 128) + (a2 - 128) := by omega
     rw [e]
     have hvb : 4096 * (a0 - 224) + 64 * (a1 - 128) + (a2 - 128) ≤ 65535 := by omega
     generalize 4096 * (a0 - 224) + 64 * (a1 - 128) + (a2 - 128) = v at hvb
     by_cases hv : 2048 ≤ v ∧ (v < 55296 ∨ 57343 < v) ∧ v ≤ 1114111
     ·rw [if_pos (by omega), if_pos (by omega)]
     ·by_cases hv2 : v ≤ 1114111
      ·rw [if_neg (by omega), if_neg (by omega)]
      ·exfalso; omega
    ·rw [if_neg (by omega), if_neg (by omega), if_neg (by omega)]
   ·rw [if_neg (show ¬ ((224 ≤ a0 ∧ a0 < 240 ∧ 3 ≤ s.size - i ∧ 128 ≤ a1 ∧ a1 < 192 ∧ 128 ≤ a2 ∧ a2 < 192) ∧ _) by omega), if_neg (by omega)]
    by_cases m1 : (240 ≤ a0 ∧ a0 < 248) ∧ 4 ≤ s.size - i ∧ 128 ≤ a1 ∧ a1 < 192 ∧ 128 ≤ a2 ∧ a2 < 192 ∧ 128 ≤ a3 ∧ a3 < 192
    ·rw [if_pos (by omega)]
     have e : a0 % 8 * 262144 + a1 % 64 * 4096 + a2 % 64 * 64 + a3 % 64 = 262144 * (a0 - 240) + 4096 * (a1 - 128) + 64 * (a2 - 128) + (a3 - 128) := by omega
     rw [e]
     by_cases hv : 65536 ≤ 262144 * (a0 - 240) + 4096 * (a1 - 128) + 64 * (a2 - 128) + (a3 - 128) ∧ 262144 * (a0 - 240) + 4096 * (a1 - 128) + 64 * (a2 - 128) + (a3 - 128) ≤ 1114111
     ·rw [if_pos (by omega), if_pos (by omega)]
     ·rw [if_neg (by omega), if_neg (by omega)]
    ·rw [if_neg (by omega), if_neg (by omega)]

theorem strB_size (l : List Int) : (strB l).size = l.length := by
 show (strB l).data.size = _
 unfold strB
 simp

theorem strB_get {l : List Int} (h : ∀ v ∈ l, inR .u8 v = true) (i : Nat) : ((strB l).get! i).toNat = (l.getD i 0).toNat := by
 have e : (strB l).get! i = ((l.map fun v => v.toNat.toUInt8).toArray)[i]! := rfl
 rw [e]
 by_cases hi : i < l.length
 ·have hv := u8_of (h l[i] (List.getElem_mem hi))
  rw [getElem!_pos _ i (by simpa using hi)]
  simp only [List.getElem_toArray, List.getElem_map, List.getD_eq_getElem?_getD, List.getElem?_eq_getElem hi, Option.getD_some]
  simp
  omega
 ·rw [getElem!_neg _ i (by simpa using hi)]
  rw [List.getD_eq_getElem?_getD, List.getElem?_eq_none (by omega)]
  rfl

def fst5 (l : List Int) : Nat × Nat := fstN (l.getD 0 0).toNat (l.getD 1 0).toNat (l.getD 2 0).toNat (l.getD 3 0).toNat l.length

theorem fstN_w (a0 a1 a2 a3 n : Nat) (h : 1 ≤ n) : 1 ≤ (fstN a0 a1 a2 a3 n).2 ∧ (fstN a0 a1 a2 a3 n).2 ≤ n ∧ (fstN a0 a1 a2 a3 n).2 ≤ 4 := by
 unfold fstN
 split
 ·exact ⟨Nat.le_refl _, h, by show 1 ≤ 4; omega⟩
 split
 ·exact ⟨by show 1 ≤ 2; omega, by show 2 ≤ n; omega, by show 2 ≤ 4; omega⟩
 split
 ·exact ⟨by show 1 ≤ 3; omega, by show 3 ≤ n; omega, by show 3 ≤ 4; omega⟩
 split
 ·exact ⟨by show 1 ≤ 4; omega, by show 4 ≤ n; omega, Nat.le_refl _⟩
 ·exact ⟨Nat.le_refl _, h, by show 1 ≤ 4; omega⟩

theorem runeAt_fst {l : List Int} (h : ∀ v ∈ l, inR .u8 v = true) {p : Nat} (hp : p < l.length) : runeAt l (p : Int) = (((fst5 (l.drop p)).1 : Int), ((fst5 (l.drop p)).2 : Int)) := by
 have hd := decode_fst (s := strB l) (i := p) (strB_get h _) (strB_get h _) (strB_get h _) (strB_get h _) (by rw [strB_size]; exact hp)
 have hg : ∀ k, (l.drop p).getD k 0 = l.getD (p + k) 0 := by
  intro k
  simp [List.getD_eq_getElem?_getD, List.getElem?_drop]
 unfold runeAt fst5
 rw [Int.toNat_natCast, hd, strB_size, hg, hg, hg, hg, List.length_drop]

def runs : Nat → List Int → List Int
 | 0, _ => []
 | k + 1, l => if l.length = 0 then [] else ((fst5 l).1 : Int) :: runs k (l.drop (fst5 l).2)

theorem fst5_w {l : List Int} (h : l.length ≠ 0) : 1 ≤ (fst5 l).2 ∧ (fst5 l).2 ≤ l.length ∧ (fst5 l).2 ≤ 4 := fstN_w _ _ _ _ _ (by omega)

theorem runs_len : ∀ (k : Nat) (l : List Int), l.length ≤ k → (runs k l).length ≤ l.length ∧ l.length ≤ 4 * (runs k l).length
 | 0, l, h => by unfold runs; simp only [List.length_nil]; omega
 | k + 1, l, h => by
  unfold runs
  by_cases h0 : l.length = 0
  ·rw [if_pos h0]; simp only [List.length_nil]; omega
  ·rw [if_neg h0]
   have hw := fst5_w h0
   have ih := runs_len k (l.drop (fst5 l).2) (by rw [List.length_drop]; omega)
   rw [List.length_drop] at ih
   rw [List.length_cons]
   omega

def runes (l : List Int) : List Int := runs l.length l

theorem runs_eq : ∀ (k : Nat) (l : List Int), l.length ≤ k → runs k l = runes l
 | 0, l, h => by
  have : l.length = 0 := by omega
  unfold runes
  rw [this]
 | k + 1, l, h => by
  unfold runes
  by_cases h0 : l.length = 0
  ·rw [h0]; unfold runs; rw [if_pos h0]
  ·obtain ⟨m, hm⟩ : ∃ m, l.length = m + 1 := ⟨l.length - 1, by omega⟩
   have hw := fst5_w h0
   rw [hm, runs, runs, if_neg h0, if_neg h0, runs_eq k _ (by rw [List.length_drop]; omega), runs_eq m _ (by rw [List.length_drop]; omega)]

theorem runes_cons {l : List Int} (h : l.length ≠ 0) : runes l = ((fst5 l).1 : Int) :: runes (l.drop (fst5 l).2) := by
 have hw := fst5_w h
 have e := runs_eq (l.length - 1 + 1) l (by omega)
 rw [← e, runs, if_neg h, runs_eq _ _ (by rw [List.length_drop]; omega)]

theorem runes_nil {l : List Int} (h : l.length = 0) : runes l = [] := by unfold runes; rw [h]; rfl

end Go.L

namespace Go.L
open Go Go.Pv
set_option maxRecDepth 100000

def rngB (c lo hi : Int) : Bool := decide (lo ≤ c) && decide (c ≤ hi)
def letB (c : Int) : Bool := (rngB c 65 90 || rngB c 97 122 || decide (c = 95)) || (!(decide (c = 215) || decide (c = 247) || decide (c = 930)) && (rngB c 192 591 || rngB c 913 969 || rngB c 1024 1279))
def digB (c : Int) : Bool := rngB c 48 57

theorem rngB_ok (c lo hi : Int) : name_between c lo hi = some ((rngB c lo hi, ()), ()) := by
 unfold name_between rngB
 simp only [gsome, ge_iff_le]
 cases decide (lo ≤ c) <;> rfl

theorem Letter_ok (c : Int) : name_Letter c = some ((letB c, ()), ()) := by
 unfold name_Letter
 by_cases h1 : c = 215
 ·subst h1; rfl
 by_cases h2 : c = 247
 ·subst h2; rfl
 by_cases h3 : c = 930
 ·subst h3; rfl
 unfold letB
 rw [decide_eq_false h1, decide_eq_false h2, decide_eq_false h3]
 simp only [rngB_ok, gsome, gtrue, gfalse, Bool.not_false, Bool.not_true, cond_true, cond_false, Option.bind_some, Bool.or_false, Bool.true_and]
 cases rngB c 65 90 <;> cases rngB c 97 122 <;> cases decide (c = 95) <;> cases rngB c 192 591 <;> cases rngB c 913 969 <;> cases rngB c 1024 1279 <;> rfl

theorem Digit_ok (c : Int) : name_Digit c = some ((digB c, ()), ()) := by
 unfold name_Digit digB
 rw [rngB_ok]; rfl

def okC (c : Int) : Bool := letB c || digB c || decide (c = 45) || decide (c = 46)
def mayR (l : List Int) : Bool := decide (1 ≤ l.length ∧ l.length ≤ 24) && letB (l.getD 0 0) && l.all okC
def mayS (s : List Int) : Bool := mayR (runes s)

theorem mayS_len {s : List Int} (h : mayS s = true) : 1 ≤ s.length ∧ s.length ≤ 96 := by
 unfold mayS mayR at h
 simp only [Bool.and_eq_true, decide_eq_true_eq] at h
 have := runs_len s.length s (Nat.le_refl _)
 have e : (runs s.length s).length = (runes s).length := rfl
 omega

def tailM (n : Nat) (l : List Int) : Bool := decide (1 ≤ n + l.length ∧ n + l.length ≤ 24) && match l with
 | [] => true
 | c :: l => (letB c || (!decide (n = 0) && okC c)) && l.all okC

theorem tailM_cons (n : Nat) (c : Int) (l : List Int) : tailM n (c :: l) = ((letB c || (!decide (n = 0) && okC c)) && tailM (n + 1) l) := by
 unfold tailM
 have e : n + (c :: l).length = n + 1 + l.length := by rw [List.length_cons]; omega
 rw [e]
 cases l with
 | nil => simp only [List.all_nil, Bool.and_true]; rw [Bool.and_comm]
 | cons d l =>
  simp only [List.all_cons]
  have h1 : decide (n + 1 = 0) = false := decide_eq_false (by omega)
  have h2 : (letB d || (!decide (n + 1 = 0) && okC d)) = okC d := by
   rw [h1]
   unfold okC
   cases letB d <;> rfl
  rw [h2]
  cases (letB c || (!decide (n = 0) && okC c)) <;> simp

theorem may_name {s : List Int} (hs : ∀ v ∈ s, inR .u8 v = true) (hn : s.length ≤ 100000) : name_May s = some ((mayS s, ()), ()) := by
 unfold name_May
 have main0 : ∀ (n p : Nat), p = s.length → n ≤ p → loopR (fun (z : (Int × (List Int × Int) × Unit) × (Unit)) => name_May_s0 z.1.1 z.1.2.1) (((n : Int), (s, (p : Int)), ()), ()) = some ((tailM n (runes (s.drop p)), ()), ()) := by
  intro n p hp hnp
  have h0 : (s.drop p).length = 0 := by rw [List.length_drop]; omega
  rw [runes_nil h0]
  refine loopR_out ?_
  dsimp only
  unfold name_May_s0
  have hx : nextS (s, (p : Int)) = .inl () := by unfold nextS; rw [if_neg (by dsimp only; omega)]
  rw [hx]
  simp only [gsome]
  have hd : tailM n [] = decide (1 ≤ n ∧ n ≤ 24) := by unfold tailM; simp
  rw [hd, Bool.decide_and]
  have e1 : decide ((n : Int) ≥ 1) = decide (1 ≤ n) := decide_eq_decide.2 (by omega)
  have e2 : decide ((n : Int) ≤ 24) = decide (n ≤ 24) := decide_eq_decide.2 (by omega)
  rw [e1, e2]
  cases decide (1 ≤ n) <;> cases decide (n ≤ 24) <;> rfl
 have main : ∀ (k n p : Nat), s.length - p ≤ k → p ≤ s.length → n ≤ p →
   loopR (fun (z : (Int × (List Int × Int) × Unit) × (Unit)) => name_May_s0 z.1.1 z.1.2.1) (((n : Int), (s, (p : Int)), ()), ()) = some ((tailM n (runes (s.drop p)), ()), ()) := by
  intro k
  induction k with
  | zero =>
   intro n p hk hp hnp
   exact main0 n p (by omega) hnp
  | succ k ih =>
   intro n p hk hp hnp
   by_cases hlt : p < s.length
   ·have h0 : (s.drop p).length ≠ 0 := by rw [List.length_drop]; omega
    have hw := fst5_w h0
    rw [List.length_drop] at hw
    have hx : nextS (s, (p : Int)) = .inr (((fst5 (s.drop p)).1 : Int), ((p + (fst5 (s.drop p)).2 : Nat) : Int)) := by
     unfold nextS
     rw [if_pos (by dsimp only; omega), runeAt_fst hs hlt]
     rfl
    rw [runes_cons h0, tailM_cons, List.drop_drop]
    have ih := ih (n + 1) (p + (fst5 (s.drop p)).2) (by omega) (by omega) (by omega)
    generalize ((fst5 (s.drop p)).1 : Int) = c at *
    generalize p + (fst5 (s.drop p)).2 = q at *
    have hdn : decide ((n : Int) = 0) = decide (n = 0) := decide_eq_decide.2 (by omega)
    have hwr : IntKind.i64.wrap ((n : Int) + 1) = ((n + 1 : Nat) : Int) := wi64 (by omega)
    have go : (letB c || (!decide (n = 0) && okC c)) = true → loopR (fun (z : (Int × (List Int × Int) × Unit) × (Unit)) => name_May_s0 z.1.1 z.1.2.1) (((n : Int), (s, (p : Int)), ()), ()) = some ((tailM (n + 1) (runes (s.drop q)), ()), ()) := by
     intro hok
     refine loopR_on (y := ((((n + 1 : Nat) : Int), (s, (q : Int)), ()), ())) ?_ ih
     dsimp only
     unfold name_May_s0
     rw [hx]
     dsimp only
     rw [Letter_ok, Option.bind_some, hdn, hwr]
     simp only [Digit_ok]
     unfold okC at hok
     cases hL : letB c with
     | true => simp only [Bool.not_true, gfalse, Bool.false_and, cond_false]
     | false =>
      rw [hL] at hok
      simp only [Bool.false_or] at hok
      cases hD : decide (n = 0) with
      | true => rw [hD] at hok; cases hok
      | false =>
       rw [hD] at hok
       simp only [Bool.not_false, Bool.true_and] at hok
       cases hG : digB c with
       | true => simp only [Bool.not_true, Bool.not_false, gfalse, gtrue, Bool.and_self, Bool.and_false, Bool.true_and, Bool.false_and, Option.bind_some, cond_false, cond_true, hG]
       | false =>
        rw [hG] at hok
        simp only [Bool.false_or] at hok
        cases h45 : decide (c = 45) with
        | true => simp only [Bool.not_true, Bool.not_false, gfalse, gtrue, Bool.and_self, Bool.and_false, Bool.true_and, Bool.false_and, Option.bind_some, cond_false, cond_true, hG, h45]
        | false =>
         rw [h45] at hok
         simp only [Bool.false_or] at hok
         simp only [Bool.not_true, Bool.not_false, gfalse, gtrue, Bool.and_self, Bool.and_false, Bool.true_and, Bool.false_and, Option.bind_some, cond_false, cond_true, hG, h45, hok]
    cases hok : (letB c || (!decide (n = 0) && okC c)) with
    | true => rw [Bool.true_and]; exact go hok
    | false =>
     rw [Bool.false_and]
     refine loopR_out ?_
     dsimp only
     unfold name_May_s0
     rw [hx]
     dsimp only
     rw [Letter_ok, Option.bind_some, hdn]
     simp only [Digit_ok]
     unfold okC at hok
     simp only [Bool.or_eq_false_iff, Bool.and_eq_false_iff] at hok
     obtain ⟨hL, hok⟩ := hok
     rw [hL]
     rcases hok with hD | ⟨⟨⟨_, hG⟩, h45⟩, h46⟩
     ·have hD : decide (n = 0) = true := by revert hD; cases decide (n = 0) <;> simp
      simp only [hD, Bool.not_true, Bool.not_false, gfalse, gtrue, Bool.and_self, Bool.and_false, Bool.true_and, Bool.false_and, Option.bind_some, cond_false, cond_true]
     ·cases hD : decide (n = 0) with
      | true => simp only [Bool.not_true, Bool.not_false, gfalse, gtrue, Bool.and_self, Bool.and_false, Bool.true_and, Bool.false_and, Option.bind_some, cond_false, cond_true]
      | false => simp only [Bool.not_true, Bool.not_false, gfalse, gtrue, Bool.and_self, Bool.and_false, Bool.true_and, Bool.false_and, Option.bind_some, cond_false, cond_true, hG, h45, h46]
   ·have hp2 : p = s.length := by omega
    exact main0 n p hp2 hnp
 have h := main s.length 0 0 (by omega) (by omega) (Nat.le_refl _)
 rw [List.drop_zero] at h
 refine Eq.trans h ?_
 congr 3
 unfold tailM mayS mayR
 cases runes s with
 | nil => simp
 | cons c l =>
  simp only [Nat.zero_add, decide_true, Bool.not_true, Bool.false_and, Bool.or_false, List.getD_cons_zero, List.all_cons]
  have : okC c = true ∨ letB c = false := by unfold okC; cases letB c <;> simp
  rcases this with h | h
  ·rw [h]; simp [Bool.and_assoc]
  ·rw [h]; simp

end Go.L

namespace Go.L
open Go Go.Pv
set_option maxRecDepth 100000

def dig (c : Int) : Nat := if 48 ≤ c ∧ c ≤ 57 then (c - 48).toNat else if 97 ≤ c ∧ c ≤ 102 then (c - 87).toNat else if 65 ≤ c ∧ c ≤ 70 then (c - 55).toNat else 16

theorem word_digit_ok (c : Int) : word_digit c = some (((dig c : Int), ()), ()) := by
 unfold word_digit dig
 simp only [gsome]
 by_cases h1 : 48 ≤ c ∧ c ≤ 57
 ·rw [decide_eq_true (show c ≥ 48 from h1.1), decide_eq_true h1.2, if_pos h1]
  simp only [cond_true]
  rw [wrap_u8 (by omega) (by omega), wrap_i64 (by omega) (by omega)]
  congr 3
  omega
 ·have e : (bif decide (c ≥ 48) then (bif decide (c ≥ 48) then decide (c ≤ 57) else false) else false) = false := by
   by_cases h : c ≥ 48
   ·rw [decide_eq_true h, decide_eq_false (by omega)]; rfl
   ·rw [decide_eq_false h]; rfl
  rw [e, cond_false, if_neg h1]
  by_cases h2 : 97 ≤ c ∧ c ≤ 102
  ·rw [decide_eq_true (show c ≥ 97 from h2.1), decide_eq_true h2.2, if_pos h2]
   simp only [cond_true]
   rw [wrap_u8 (by omega) (by omega), wrap_i64 (n := c - 97) (by omega) (by omega), wrap_i64 (by omega) (by omega)]
   congr 3
   omega
  ·have e : (bif decide (c ≥ 97) then (bif decide (c ≥ 97) then decide (c ≤ 102) else false) else false) = false := by
    by_cases h : c ≥ 97
    ·rw [decide_eq_true h, decide_eq_false (by omega)]; rfl
    ·rw [decide_eq_false h]; rfl
   rw [e, cond_false, if_neg h2]
   by_cases h3 : 65 ≤ c ∧ c ≤ 70
   ·rw [decide_eq_true (show c ≥ 65 from h3.1), decide_eq_true h3.2, if_pos h3]
    simp only [cond_true]
    rw [wrap_u8 (by omega) (by omega), wrap_i64 (n := c - 65) (by omega) (by omega), wrap_i64 (by omega) (by omega)]
    congr 3
    omega
   ·have e : (bif decide (c ≥ 65) then (bif decide (c ≥ 65) then decide (c ≤ 70) else false) else false) = false := by
     by_cases h : c ≥ 65
     ·rw [decide_eq_true h, decide_eq_false (by omega)]; rfl
     ·rw [decide_eq_false h]; rfl
    rw [e, cond_false, if_neg h3]
    rfl

def val (b : Nat) : List Int → Nat → Option Nat
 | [], n => some n
 | c :: l, n => if b ≤ dig c then none else val b l (n * b + dig c)

def read (b : Nat) (l : List Int) (n : Nat) : Nat × Int := match val b l n with
 | none => (0, 4)
 | some m => if 340282366920938463463374607431768211456 ≤ m then (0, 7) else (m, 0)

theorem read_nil (b n : Nat) : read b [] n = if 340282366920938463463374607431768211456 ≤ n then (0, 7) else (n, 0) := rfl
theorem read_bad {b : Nat} {c : Int} (l : List Int) (n : Nat) (h : b ≤ dig c) : read b (c :: l) n = (0, 4) := by unfold read val; rw [if_pos h]
theorem read_on {b : Nat} {c : Int} (l : List Int) (n : Nat) (h : ¬ b ≤ dig c) : read b (c :: l) n = read b l (n * b + dig c) := by unfold read; conv => lhs; unfold val; rw [if_neg h]

theorem drop_cons {l : List Int} {i : Nat} (h : i < l.length) : l.drop i = l.getD i 0 :: l.drop (i + 1) := by
 rw [List.drop_eq_getElem_cons h]
 simp [List.getD, List.getElem?_eq_getElem h]

theorem rd_getD {l : List Int} {i : Nat} (h : i < l.length) : rdI l (i : Int) = some (l.getD i 0) := by
 unfold rdI
 rw [if_pos (by omega)]
 simp [List.getD, List.getElem?_eq_getElem h]

theorem over_no {n b : Nat} (hb : 2 ≤ b) (h : ¬ 340282366920938463463374607431768211455 / b < n) : n * b < 340282366920938463463374607431768211456 := by
 rw [Nat.div_lt_iff_lt_mul (by omega)] at h
 omega

theorem u64_small {n : Nat} (h : n < 1000) : IntKind.u64.wrap (n : Int) = (n : Int) := wu64 (by omega)
theorem wp_small {n : Nat} (h : n < 1000) : ((0, (n : Int), ()) : Int × Int × Unit) = wp n := by
 unfold wp
 rw [Nat.div_eq_of_lt (by omega), Nat.mod_eq_of_lt (by omega)]
 rfl

theorem based_ok {b : Nat} (hb : 2 ≤ b) (hb2 : b ≤ 16) : word_based (b : Int) = some ((true, ()), ()) := by
 unfold word_based
 simp only [gsome, decide_eq_true (show (b : Int) ≥ 2 by omega), decide_eq_true (show (b : Int) ≤ 16 by omega), cond_true]

theorem word_Parse_ok {b : Nat} {l : List Int} (hb : 2 ≤ b) (hb2 : b ≤ 16) (hne : l ≠ []) (hl : l.length < 1000000000) : word_Parse l (b : Int) = some ((wp (read b l 0).1, (read b l 0).2, ()), ()) := by
 unfold word_Parse
 rw [based_ok hb hb2, Option.bind_some]
 simp only [Bool.not_true, cond_false, decide_eq_false hne]
 have main : ∀ k i n : Nat, l.length - i = k → i ≤ l.length → loopR (fun (z : ((List Int) × Int × Bool × Int × Int × Unit) × ((Int × Int × Unit) × (Int × Int × Unit) × Unit)) => word_Parse_s1 z.1.1 z.1.2.1 z.1.2.2.1 z.1.2.2.2.1 z.1.2.2.2.2.1 z.2.1 z.2.2.1) ((l, (b : Int), decide (340282366920938463463374607431768211456 ≤ n), (l.length : Int), (i : Int), ()), (0, 0, ()), wp (n % 340282366920938463463374607431768211456), ()) = some ((wp (read b (l.drop i) n).1, (read b (l.drop i) n).2, ()), ()) := by
  intro k
  induction k with
  | zero =>
   intro i n hk hi
   refine loopR_out ?_
   dsimp only
   unfold word_Parse_s1
   rw [decide_eq_false (show ¬ (i : Int) < (l.length : Int) by omega), cond_false, List.drop_eq_nil_of_le (by omega), read_nil]
   by_cases h : 340282366920938463463374607431768211456 ≤ n
   ·rw [decide_eq_true h, if_pos h]
    rfl
   ·rw [decide_eq_false h, if_neg h, Nat.mod_eq_of_lt (by omega)]
    rfl
  | succ k ih =>
   intro i n hk hi
   have hil : i < l.length := by omega
   rw [drop_cons hil]
   by_cases hd : b ≤ dig (l.getD i 0)
   ·refine loopR_out ?_
    dsimp only
    unfold word_Parse_s1
    rw [decide_eq_true (show (i : Int) < (l.length : Int) by omega), cond_true, rd_getD hil, Option.bind_some, word_digit_ok, Option.bind_some, read_bad _ _ hd]
    dsimp only
    rw [decide_eq_true (show (dig (l.getD i 0) : Int) ≥ (b : Int) by omega), cond_true]
    rfl
   ·refine loopR_on ?_ (by rw [read_on _ _ hd]; exact ih (i + 1) (n * b + dig (l.getD i 0)) (by omega) (by omega))
    dsimp only
    unfold word_Parse_s1
    rw [decide_eq_true (show (i : Int) < (l.length : Int) by omega), cond_true, rd_getD hil, Option.bind_some, word_digit_ok, Option.bind_some]
    dsimp only
    generalize dig (l.getD i 0) = d at hd ⊢
    have hpv : ((wp (n % 340282366920938463463374607431768211456)).1, (wp (n % 340282366920938463463374607431768211456)).2.1, ()) = wp (n % 340282366920938463463374607431768211456) := rfl
    have hmn := Nat.mod_lt n (show 0 < 340282366920938463463374607431768211456 by omega)
    rw [decide_eq_false (show ¬ (d : Int) ≥ (b : Int) by omega), cond_false, wp0, word_Not_ok (by omega), Option.bind_some, u64_small (show b < 1000 by omega), u64_small (show d < 1000 by omega)]
    dsimp only
    rw [word_Div_ok (by omega) (by omega) (by omega), Option.bind_some, hpv, wp_small (show b < 1000 by omega), wp_small (show d < 1000 by omega), word_Mul_ok hmn (by omega)]
    dsimp only [Option.bind_some]
    have hmm := Nat.mod_lt (n % 340282366920938463463374607431768211456 * b) (show 0 < 340282366920938463463374607431768211456 by omega)
    rw [word_Add_ok hmm (by omega)]
    dsimp only [Option.bind_some]
    simp only [gsome, Nat.sub_zero]
    have hq : 340282366920938463463374607431768211455 / b < 340282366920938463463374607431768211456 := Nat.lt_of_le_of_lt (Nat.div_le_self _ _) (by omega)
    have hval : (n % 340282366920938463463374607431768211456 * b % 340282366920938463463374607431768211456 + d) % 340282366920938463463374607431768211456 = (n * b + d) % 340282366920938463463374607431768211456 := by
     rw [Nat.mod_mul_mod, Nat.mod_add_mod]
    rw [hval, wi64 (by omega)]
    by_cases hov : 340282366920938463463374607431768211456 ≤ n
    ·have hnb : 340282366920938463463374607431768211456 ≤ n * b + d := by
      have := Nat.mul_le_mul_left n (show 1 ≤ b by omega)
      omega
     simp only [decide_eq_true hov, decide_eq_true hnb, Bool.not_true, gfalse, cond_true, cond_false]
    ·simp only [decide_eq_false hov, Bool.not_false, gtrue, cond_true, cond_false]
     rw [word_Cmp_ok hmn hq, Option.bind_some, Nat.mod_eq_of_lt (show n < 340282366920938463463374607431768211456 by omega)]
     dsimp only
     by_cases hc : 340282366920938463463374607431768211455 / b < n
     ·have hnb : 340282366920938463463374607431768211456 ≤ n * b + d := by
       rw [Nat.div_lt_iff_lt_mul (by omega)] at hc
       omega
      rw [decide_eq_true (show cmp n (340282366920938463463374607431768211455 / b) > 0 by unfold cmp; split <;> (try split) <;> omega), decide_eq_true hnb]
      rfl
     ·have hnb := over_no hb hc
      rw [decide_eq_false (show ¬ cmp n (340282366920938463463374607431768211455 / b) > 0 by unfold cmp; split <;> (try split) <;> omega), Nat.mod_eq_of_lt hnb]
      rfl
 have := main l.length 0 0 (by omega) (by omega)
 exact this

theorem word_Parse_base {l : List Int} {b : Int} (h : ¬ (2 ≤ b ∧ b ≤ 16)) : word_Parse l b = some (((0, 0, ()), 1, ()), ()) := by
 unfold word_Parse word_based
 simp only [gsome, Option.bind_some]
 have e : (bif decide (b ≥ 2) then (bif decide (b ≥ 2) then decide (b ≤ 16) else false) else false) = false := by
  by_cases h : b ≥ 2
  ·rw [decide_eq_true h, decide_eq_false (by omega)]; rfl
  ·rw [decide_eq_false h]; rfl
 rw [e]
 rfl

theorem word_Parse_empty {b : Int} (h : 2 ≤ b ∧ b ≤ 16) : word_Parse [] b = some (((0, 0, ()), 3, ()), ()) := by
 unfold word_Parse word_based
 simp only [gsome, Option.bind_some, decide_eq_true (show b ≥ 2 from h.1), decide_eq_true h.2]
 rfl

theorem zeros : ([false, false, false, false, false, false, false, false, false, false, false, false, false, false, false, false, false, false, false, false, false, false, false, false, false, false, false, false, false, false, false, false, false, false, false, false, false, false, false, false, false, false, false, false, false, false, false, false, false, false, false, false, false, false, false, false, false, false, false, false, false, false, false, false, false, false, false, false, false, false, false, false, false, false, false, false, false, false, false, false, false, false, false, false, false, false, false, false, false, false, false, false, false, false, false, false, false, false, false, false, false, false, false, false, false, false, false, false, false, false, false, false, false, false, false, false, false, false, false, false, false, false, false, false, false, false, false, false] : List Bool) = rowB (BitVec.ofNat 128 0) := by decide

def chrU (d : Nat) : Int := if d < 10 then 48 + d else 55 + d

theorem hexU_rd : ∀ d : Nat, d < 16 → rdI ([48, 49, 50, 51, 52, 53, 54, 55, 56, 57, 65, 66, 67, 68, 69, 70] : List Int) (d : Int) = some (chrU d) := by
 have : ∀ n : Fin 16, rdI ([48, 49, 50, 51, 52, 53, 54, 55, 56, 57, 65, 66, 67, 68, 69, 70] : List Int) ((n.val : Nat) : Int) = some (chrU n.val) := by decide
 exact fun d h => this ⟨d, h⟩

theorem chr_dig {c : Int} {k : Nat} (hk : k < 16) : (c = chr k ∨ c = chrU k) ↔ dig c = k := by
 unfold chr chrU dig
 constructor
 ·intro h
  split at h <;> split <;> (try split) <;> (try split) <;> omega
 ·intro h
  split at h
  ·split <;> omega
  ·split at h
   ·split <;> omega
   ·split at h
    ·split <;> omega
    ·omega

def found (c : Int) (k : Nat) : Int := if dig c < k then (dig c : Int) else 99

theorem search_ok {b i : Nat} {l : List Int} {ov : Bool} {z v : List Bool} {r : ((((List Int) × Int × Bool × Int × Unit) × ((List Bool) × (List Bool) × Unit)) ⊕ (((List Bool) × Int × Unit) × (Unit)))} (hb2 : b ≤ 16) (hi : i < l.length) (h : ref01_Parse_s2 l (b : Int) ov (i : Int) (found (l.getD i 0) b) (b : Int) z v = some (.inr r)) :
  loopR (fun (z : ((List Int) × Int × Bool × Int × Int × Int × Unit) × ((List Bool) × (List Bool) × Unit)) => ref01_Parse_s2 z.1.1 z.1.2.1 z.1.2.2.1 z.1.2.2.2.1 z.1.2.2.2.2.1 z.1.2.2.2.2.2.1 z.2.1 z.2.2.1) ((l, (b : Int), ov, (i : Int), 99, 0, ()), z, v, ()) = some r := by
 refine loop_up (fun k => (((l, (b : Int), ov, (i : Int), found (l.getD i 0) k, (k : Int), ()), z, v, ()) : ((List Int) × Int × Bool × Int × Int × Int × Unit) × ((List Bool) × (List Bool) × Unit))) b ?_ h 0 (by omega)
 intro k hk
 dsimp only
 unfold ref01_Parse_s2
 rw [decide_eq_true (show (k : Int) < (b : Int) by omega), cond_true, rd_getD hi, Option.bind_some, hex_rd k (by omega), Option.bind_some, hexU_rd k (by omega)]
 simp only [gsome]
 generalize l.getD i 0 = c
 have hcd := chr_dig (c := c) (k := k) (by omega)
 rw [wi64 (by omega)]
 by_cases h1 : c = chr k
 ·have hf : found c (k + 1) = (k : Int) := by
   have := hcd.1 (.inl h1)
   unfold found
   rw [if_pos (by omega), this]
  simp only [decide_eq_true h1, Bool.not_true, gfalse, cond_true, hf]
 ·simp only [decide_eq_false h1, Bool.not_false, gtrue, Option.bind_some, cond_true, cond_false]
  by_cases h2 : c = chrU k
  ·have hf : found c (k + 1) = (k : Int) := by
    have := hcd.1 (.inr h2)
    unfold found
    rw [if_pos (by omega), this]
   simp only [decide_eq_true h2, cond_true, hf]
  ·have hf : found c (k + 1) = found c k := by
    have : ¬ dig c = k := fun e => by rcases hcd.2 e with h | h; exact h1 h; exact h2 h
    unfold found
    by_cases h3 : dig c < k
    ·rw [if_pos h3, if_pos (by omega)]
    ·rw [if_neg h3, if_neg (by omega)]
   simp only [decide_eq_false h2, cond_false, hf]

theorem ref01_Parse_ok {b : Nat} {l : List Int} (hb : 2 ≤ b) (hb2 : b ≤ 16) (hne : l ≠ []) (hl : l.length < 1000000000) : ref01_Parse l (b : Int) = some ((rowB (BitVec.ofNat 128 (read b l 0).1), (read b l 0).2, ()), ()) := by
 unfold ref01_Parse
 simp only [gsome, decide_eq_false (show ¬ (b : Int) < 2 by omega), decide_eq_false (show ¬ (b : Int) > 16 by omega), Bool.not_false, cond_true, cond_false, decide_eq_false hne]
 have hz : List.replicate 128 false = rowB (BitVec.ofNat 128 0) := by decide
 rw [hz]
 have main : ∀ k i n : Nat, ∀ v : List Bool, l.length - i = k → i ≤ l.length → (n < 340282366920938463463374607431768211456 → v = rowB (BitVec.ofNat 128 n)) → loopR (fun (z : ((List Int) × Int × Bool × Int × Unit) × ((List Bool) × (List Bool) × Unit)) => ref01_Parse_s0 z.1.1 z.1.2.1 z.1.2.2.1 z.1.2.2.2.1 z.2.1 z.2.2.1) ((l, (b : Int), decide (340282366920938463463374607431768211456 ≤ n), (i : Int), ()), rowB (BitVec.ofNat 128 0), v, ()) = some ((rowB (BitVec.ofNat 128 (read b (l.drop i) n).1), (read b (l.drop i) n).2, ()), ()) := by
  intro k
  induction k with
  | zero =>
   intro i n v hk hi hv
   refine loopR_out ?_
   dsimp only
   unfold ref01_Parse_s0
   rw [decide_eq_false (show ¬ (i : Int) < (l.length : Int) by omega), cond_false, List.drop_eq_nil_of_le (by omega), read_nil]
   by_cases h : 340282366920938463463374607431768211456 ≤ n
   ·rw [decide_eq_true h, if_pos h, cond_true, zeros]
    rfl
   ·rw [decide_eq_false h, if_neg h, hv (by omega)]
    rfl
  | succ k ih =>
   intro i n v hk hi hv
   have hil : i < l.length := by omega
   rw [drop_cons hil]
   by_cases hd : b ≤ dig (l.getD i 0)
   ·refine loopR_out ?_
    dsimp only
    unfold ref01_Parse_s0
    rw [decide_eq_true (show (i : Int) < (l.length : Int) by omega), cond_true, read_bad _ _ hd]
    refine search_ok hb2 hil ?_
    unfold ref01_Parse_s2
    rw [decide_eq_false (show ¬ (b : Int) < (b : Int) by omega), cond_false, show found (l.getD i 0) b = 99 by unfold found; rw [if_neg (by omega)], decide_eq_true (show (99 : Int) = 99 from rfl), cond_true, zeros]
    rfl
   ·have hf : found (l.getD i 0) b = (dig (l.getD i 0) : Int) := by unfold found; rw [if_pos (by omega)]
    by_cases hov : 340282366920938463463374607431768211456 ≤ n
    ·have hnb : 340282366920938463463374607431768211456 ≤ n * b + dig (l.getD i 0) := by
      have := Nat.mul_le_mul_left n (show 1 ≤ b by omega)
      omega
     refine loopR_on ?_ (by rw [read_on _ _ hd]; exact ih (i + 1) (n * b + dig (l.getD i 0)) v (by omega) (by omega) (fun h => absurd h (by omega)))
     dsimp only
     unfold ref01_Parse_s0
     rw [decide_eq_true (show (i : Int) < (l.length : Int) by omega), cond_true]
     refine search_ok hb2 hil ?_
     unfold ref01_Parse_s2
     rw [decide_eq_false (show ¬ (b : Int) < (b : Int) by omega), cond_false, hf, decide_eq_false (show ¬ (dig (l.getD i 0) : Int) = 99 by omega), cond_false, decide_eq_true hov, decide_eq_true hnb, wi64 (by omega)]
     rfl
    ·have hnl : n < 340282366920938463463374607431768211456 := by omega
     have hv := hv hnl
     subst hv
     refine loopR_on (y := ((l, (b : Int), decide (340282366920938463463374607431768211456 ≤ n * b + dig (l.getD i 0)), ((i + 1 : Nat) : Int), ()), rowB (BitVec.ofNat 128 0), rowB (BitVec.ofNat 128 (n * b + dig (l.getD i 0))), ())) ?_ (by rw [read_on _ _ hd]; exact ih (i + 1) (n * b + dig (l.getD i 0)) _ (by omega) (by omega) (fun h => rfl))
     dsimp only
     unfold ref01_Parse_s0
     rw [decide_eq_true (show (i : Int) < (l.length : Int) by omega), cond_true]
     refine search_ok hb2 hil ?_
     unfold ref01_Parse_s2
     have hlit : ~~~ (BitVec.ofNat 128 0) = BitVec.ofNat 128 340282366920938463463374607431768211455 := by decide
     rw [decide_eq_false (show ¬ (b : Int) < (b : Int) by omega), cond_false, hf]
     generalize dig (l.getD i 0) = d at hd ⊢
     rw [decide_eq_false (show ¬ (d : Int) = 99 by omega), cond_false, decide_eq_false hov, Bool.not_false, cond_true, zeros, ref01_Turned_ok, Option.bind_some, ref01_small_ok (show b < 1000000000 by omega), Option.bind_some]
     dsimp only
     rw [hlit, ref01_Part_ok _ _ (by rw [BitVec.toNat_ofNat]; omega), Option.bind_some]
     dsimp only
     have hq : 340282366920938463463374607431768211455 / b < 340282366920938463463374607431768211456 := Nat.lt_of_le_of_lt (Nat.div_le_self _ _) (by omega)
     rw [ref01_Less_ok, Option.bind_some, Option.bind_some]
     dsimp only
     rw [ref01_Product_ok, Option.bind_some, ref01_small_ok (show d < 1000000000 by omega), Option.bind_some]
     dsimp only
     rw [sum0, Option.bind_some]
     simp only [gsome]
     have h1 : (BitVec.ofNat 128 (340282366920938463463374607431768211455 : Nat)).toNat = 340282366920938463463374607431768211455 := by decide
     have h2 : (BitVec.ofNat 128 b).toNat = b := by rw [BitVec.toNat_ofNat, Nat.mod_eq_of_lt (show b < 2 ^ 128 by omega)]
     have h3 : (BitVec.ofNat 128 n).toNat = n := by rw [BitVec.toNat_ofNat, Nat.mod_eq_of_lt (show n < 2 ^ 128 by omega)]
     have h4 : (BitVec.ofNat 128 d).toNat = d := by rw [BitVec.toNat_ofNat, Nat.mod_eq_of_lt (show d < 2 ^ 128 by omega)]
     have h5 : (BitVec.ofNat 128 (340282366920938463463374607431768211455 / b)).toNat = 340282366920938463463374607431768211455 / b := by rw [BitVec.toNat_ofNat, Nat.mod_eq_of_lt hq]
     have hsum : BitVec.ofNat 128 n * BitVec.ofNat 128 b + BitVec.ofNat 128 d = BitVec.ofNat 128 (n * b + d) := by
      apply BitVec.eq_of_toNat_eq
      rw [BitVec.toNat_add, BitVec.toNat_mul, h2, h3, h4, BitVec.toNat_ofNat, Nat.mod_add_mod]
     have hcarry : BitVec.carry 128 (BitVec.ofNat 128 n * BitVec.ofNat 128 b) (BitVec.ofNat 128 d) false = decide (340282366920938463463374607431768211456 ≤ n * b % 340282366920938463463374607431768211456 + d) := by
      unfold BitVec.carry
      rw [BitVec.toNat_mul, h2, h3, h4, Bool.toNat_false, Nat.add_zero]
      have hmm := Nat.mod_lt (n * b) (show 0 < 2 ^ 128 by omega)
      rw [Nat.mod_mod, Nat.mod_eq_of_lt (show d < 2 ^ 128 by omega)]
     rw [h1, h2, h5, h3, hsum, hcarry, wi64 (by omega)]
     by_cases hc : 340282366920938463463374607431768211455 / b < n
     ·have hnb : 340282366920938463463374607431768211456 ≤ n * b + d := by
       rw [Nat.div_lt_iff_lt_mul (by omega)] at hc
       omega
      rw [decide_eq_true hc, decide_eq_true hnb]
      rfl
     ·have hnb := over_no hb hc
      rw [decide_eq_false hc, Nat.mod_eq_of_lt hnb]
      rfl
 have := main l.length 0 0 (rowB (BitVec.ofNat 128 0)) (by omega) (by omega) (fun _ => rfl)
 exact this

theorem ref01_Parse_base {l : List Int} {b : Int} (h : ¬ (2 ≤ b ∧ b ≤ 16)) : ref01_Parse l b = some ((rowB (BitVec.ofNat 128 0), 1, ()), ()) := by
 unfold ref01_Parse
 simp only [gsome]
 have e : (bif decide (b < 2) then true else (bif !decide (b < 2) then decide (b > 16) else false)) = true := by
  by_cases h : b < 2
  ·rw [decide_eq_true h]; rfl
  ·rw [decide_eq_false h, decide_eq_true (by omega)]; rfl
 rw [e, cond_true, zeros]

theorem ref01_Parse_empty {b : Int} (h : 2 ≤ b ∧ b ≤ 16) : ref01_Parse [] b = some ((rowB (BitVec.ofNat 128 0), 3, ()), ()) := by
 unfold ref01_Parse
 simp only [gsome, decide_eq_false (show ¬ b < 2 by omega), decide_eq_false (show ¬ b > 16 by omega)]
 rw [← zeros]
 rfl

end Go.L

namespace Go.L
open Go Go.Pv
set_option maxRecDepth 100000

theorem val_append (b : Nat) : ∀ (l l' : List Int) (n : Nat), val b (l ++ l') n = (val b l n).bind (val b l')
 | [], _, _ => rfl
 | c :: l, l', n => by
  show (if b ≤ dig c then none else val b (l ++ l') (n * b + dig c)) = (if b ≤ dig c then none else val b l (n * b + dig c)).bind (val b l')
  split
  ·rfl
  ·exact val_append b l l' _

theorem dig_chr : ∀ d : Nat, d < 16 → dig (chr d) = d := by
 have : ∀ n : Fin 16, dig (chr n.val) = n.val := by decide
 exact fun d h => this ⟨d, h⟩

def up (c : Int) : Int := if 97 ≤ c then c - 32 else c

theorem text_eq {b w : Nat} (hb : 2 ≤ b) : text b w = (if w / b = 0 then [] else text b (w / b)) ++ [chr (w % b)] := by
 unfold text
 rw [D_eq hb]
 split
 ·rfl
 ·simp

theorem val_text {b : Nat} (hb : 2 ≤ b) (hb2 : b ≤ 16) (w : Nat) : val b (text b w) 0 = some w := by
 induction w using Nat.strongRecOn with
 | _ w ih =>
  have hm := Nat.mod_lt w (show 0 < b by omega)
  have one : ∀ n, val b [chr (w % b)] n = some (n * b + w % b) := by
   intro n
   show (if b ≤ dig (chr (w % b)) then none else some (n * b + dig (chr (w % b)))) = _
   rw [dig_chr _ (by omega), if_neg (by omega)]
  rw [text_eq hb, val_append]
  by_cases h : w / b = 0
  ·rw [if_pos h]
   show val b [chr (w % b)] 0 = _
   rw [one, Nat.zero_mul, Nat.zero_add]
   have := Nat.div_add_mod w b
   rw [h, Nat.mul_zero] at this
   congr 1
   omega
  ·rw [if_neg h, ih (w / b) (Nat.div_lt_self (Nat.pos_of_ne_zero (fun e => h (by rw [e]; simp))) (by omega)), Option.bind_some, one]
   congr 1
   rw [Nat.mul_comm]
   exact Nat.div_add_mod w b

theorem text_head {b : Nat} (hb : 2 ≤ b) (w : Nat) : ∃ d r, text b w = chr d :: r ∧ d < b ∧ (0 < w → d ≠ 0) ∧ (w = 0 → r = []) := by
 induction w using Nat.strongRecOn with
 | _ w ih =>
  have hm := Nat.mod_lt w (show 0 < b by omega)
  rw [text_eq hb]
  by_cases h : w / b = 0
  ·rw [if_pos h]
   refine ⟨w % b, [], rfl, hm, fun hp => ?_, fun _ => rfl⟩
   have := Nat.div_add_mod w b
   rw [h, Nat.mul_zero] at this
   omega
  ·rw [if_neg h]
   obtain ⟨d, r, e, h1, h2, _⟩ := ih (w / b) (Nat.div_lt_self (Nat.pos_of_ne_zero (fun e => h (by rw [e]; simp))) (by omega))
   refine ⟨d, r ++ [chr (w % b)], by rw [e]; rfl, h1, fun _ => h2 (Nat.pos_of_ne_zero h), fun e => absurd (by rw [e]; simp) h⟩

theorem text_len {b w : Nat} (hb : 2 ≤ b) (hw : w < 340282366920938463463374607431768211456) : (text b w).length ≤ 128 := by
 have := D_len hb 127 w hw
 unfold text
 rw [List.length_reverse, List.length_map]
 exact this

theorem text_ne {b w : Nat} (hb : 2 ≤ b) : text b w ≠ [] := by
 obtain ⟨d, r, e, _⟩ := text_head hb w
 rw [e]
 exact List.cons_ne_nil _ _

theorem text_dig {b w : Nat} (hb : 2 ≤ b) {c : Int} (h : c ∈ text b w) : ∃ d, d < b ∧ c = chr d := by
 unfold text at h
 obtain ⟨d, hd, rfl⟩ := List.mem_map.1 (List.mem_reverse.1 h)
 exact ⟨d, D_lt hb w d hd, rfl⟩

theorem read_of {b : Nat} {l : List Int} {n m : Nat} (h : val b l n = some m) : read b l n = if 340282366920938463463374607431768211456 ≤ m then (0, 7) else (m, 0) := by unfold read; rw [h]

theorem read_text {b w : Nat} (hb : 2 ≤ b) (hb2 : b ≤ 16) (hw : w < 340282366920938463463374607431768211456) : read b (text b w) 0 = (w, 0) := by
 rw [read_of (val_text hb hb2 w), if_neg (by omega)]

theorem read_lt (b : Nat) (l : List Int) (n : Nat) : (read b l n).1 < 340282366920938463463374607431768211456 := by
 unfold read
 split
 ·show 0 < _; omega
 ·split
  ·show 0 < _; omega
  ·show _ < _; omega

theorem parses {l : List Int} {b : Int} (hl : l.length < 1000000000) : ∃ w c, w < 340282366920938463463374607431768211456 ∧ word_Parse l b = some ((wp w, c, ()), ()) ∧ ref01_Parse l b = some ((rowB (BitVec.ofNat 128 w), c, ()), ()) ∧ (¬ (2 ≤ b ∧ b ≤ 16) → c = 1) := by
 by_cases h : 2 ≤ b ∧ b ≤ 16
 ·by_cases he : l = []
  ·subst he
   exact ⟨0, 3, by omega, by rw [word_Parse_empty h]; rfl, ref01_Parse_empty h, fun h2 => absurd h h2⟩
  ·obtain ⟨k, rfl⟩ : ∃ k : Nat, b = k := ⟨b.toNat, by omega⟩
   exact ⟨_, _, read_lt k l 0, word_Parse_ok (by omega) (by omega) he hl, ref01_Parse_ok (by omega) (by omega) he hl, fun h2 => absurd h h2⟩
 ·exact ⟨0, 1, by omega, by rw [word_Parse_base h]; rfl, ref01_Parse_base h, fun _ => rfl⟩

end Go.L

namespace Go.L
open Go Go.Pv
set_option maxRecDepth 100000

theorem vec_Word_ok (w : Int) (x : Nat) : vec_Word (vw w x) = some ((wp x, ()), ()) := rfl
theorem vec_row_ok (w : Int) (x : Nat) : vec_row w (wp x) = some ((vw w x, ()), ()) := rfl

theorem width_ok (w : Int) : vec_width w = some ((decide (1 ≤ w ∧ w ≤ 128), ()), ()) := by
 unfold vec_width
 simp only [gsome]
 by_cases h : 1 ≤ w ∧ w ≤ 128
 ·rw [decide_eq_true (show w ≥ 1 from h.1), decide_eq_true h.2, decide_eq_true h]; rfl
 ·rw [decide_eq_false h]
  by_cases h1 : w ≥ 1
  ·rw [decide_eq_true h1, decide_eq_false (by omega)]; rfl
  ·rw [decide_eq_false h1]; rfl

theorem vec_Cut_ok {w : Int} {x : Nat} (h1 : 1 ≤ w) (h2 : w ≤ 128) (hx : x < 340282366920938463463374607431768211456) : vec_Cut w (wp x) = some ((vw w (x % 2 ^ w.toNat), 0, ()), ()) := by
 unfold vec_Cut
 have hpa : ((wp x).1, (wp x).2.1, ()) = wp x := rfl
 have h128 : 2 ^ min w.toNat 128 - 1 < 340282366920938463463374607431768211456 := by
  have := Nat.pow_le_pow_right (n := 2) (by omega) (Nat.min_le_right w.toNat 128)
  rw [show 2 ^ 128 = 340282366920938463463374607431768211456 from rfl] at this
  omega
 rw [width_ok, Option.bind_some, decide_eq_true (show 1 ≤ w ∧ w ≤ 128 from ⟨h1, h2⟩), Bool.not_true, cond_false, word_Ones_ok, Option.bind_some, hpa]
 dsimp only
 rw [word_And_ok hx h128, Option.bind_some]
 dsimp only
 rw [vec_row_ok, Option.bind_some, Nat.min_eq_left (show w.toNat ≤ 128 by omega), Nat.and_two_pow_sub_one_eq_mod]

theorem may_lt {w : Int} {x : Nat} (h : may w x = true) : x < 2 ^ w.toNat := by
 have hm := of_decide_eq_true h
 exact Nat.lt_of_lt_of_le (bitLen_spec x).1 (Nat.pow_le_pow_right (by omega) (by omega))

theorem halves_wp {y : Nat} (hy : y < 340282366920938463463374607431768211456) : ref01_Halves (rowB (BitVec.ofNat 128 y)) = some (((wp y).1, (wp y).2.1, ()), ()) := by
 have h := ref01_Halves_ok (hi := y / 18446744073709551616) (lo := y % 18446744073709551616) (by omega) (Nat.mod_lt _ (by omega))
 have e : wd (y / 18446744073709551616) (y % 18446744073709551616) = BitVec.ofNat 128 y := by
  unfold wd
  congr 1
  omega
 rw [e] at h
 exact h

theorem ref02_Of_ok {n X : Nat} (hn : n ≤ 128) : ref02_Of (lrow n X.testBit) = some ((vw (n : Int) (X % 2 ^ n), ()), ()) := by
 unfold ref02_Of
 rw [← bld_zero X.testBit]
 refine loop_up (fun i => (((lrow n X.testBit, (i : Int), ()), (0, 0, 0, ()), bld X.testBit i, ()) : ((List Bool) × Int × Unit) × ((Int × Int × Int × Unit) × (List Bool) × Unit))) n ?_ ?_ 0 (by omega)
 ·intro i hi
  dsimp only
  unfold ref02_Of_s0
  simp only [gsome, lrow_len]
  rw [decide_eq_true (show (i : Int) < (n : Int) by omega), decide_eq_true (show (i : Int) < 128 by omega)]
  simp only [cond_true]
  rw [lrow_rd _ hi, Option.bind_some, ck_nat (show i < 128 by omega), bld_st _ (show i < 128 by omega) rfl, Option.bind_some, wi64 (by omega)]
 ·dsimp only
  unfold ref02_Of_s0
  simp only [gsome, lrow_len]
  rw [decide_eq_false (show ¬ (n : Int) < (n : Int) by omega)]
  simp only [cond_false]
  have hb : bld X.testBit n = rowB (BitVec.ofNat 128 (X % 2 ^ n)) := by
   rw [row_w]
   exact row_ext fun i hi => by rw [Nat.testBit_mod_two_pow]
  have hlt : X % 2 ^ n < 340282366920938463463374607431768211456 := Nat.lt_of_lt_of_le (Nat.mod_lt _ (Nat.two_pow_pos n)) (by rw [show 340282366920938463463374607431768211456 = 2 ^ 128 from rfl]; exact Nat.pow_le_pow_right (by omega) hn)
  rw [hb, halves_wp hlt]
  rfl

theorem subL_lrow {α : Type} {n lo k : Nat} (f : Nat → α) (h : lo + k ≤ n) : subL (lrow n f) (lo : Int) ((lo + k : Nat) : Int) = some (lrow k fun j => f (lo + j)) := by
 unfold subL
 rw [lrow_len, if_pos (by omega), Int.toNat_natCast, Int.toNat_natCast]
 congr 1
 apply List.ext_getElem?
 intro j
 rw [List.getElem?_drop, List.getElem?_take]
 by_cases hj : j < k
 ·rw [if_pos (by omega), lrow_get _ (by omega), lrow_get _ hj]
 ·rw [if_neg (by omega), List.getElem?_eq_none (by rw [lrow_len]; omega)]

theorem slices {w : Int} {x : Nat} {hi lo : Int} (hx : x < 340282366920938463463374607431768211456) : ∃ v c, vec_Slice (vw w x) hi lo = some ((v, c, ()), ()) ∧ ref02_Slice (vw w x) hi lo = some ((v, c, ()), ()) := by
 have hpv : ((vw w x).1, (vw w x).2.1, (vw w x).2.2.1, ()) = vw w x := rfl
 unfold vec_Slice ref02_Slice
 rw [hpv, vec_May_ok hx, ref02_May_ok hx, Option.bind_some, Option.bind_some]
 dsimp only
 cases hm : may w x
 ·exact ⟨_, _, rfl, rfl⟩
 ·obtain ⟨h1, h2, h3⟩ := may_of hm
  simp only [Bool.not_true, cond_false, gsome]
  rw [show (vw w x).1 = w from rfl]
  by_cases h : 0 ≤ lo ∧ lo ≤ hi ∧ hi < w
  ·obtain ⟨l, rfl⟩ : ∃ l : Nat, lo = l := ⟨lo.toNat, by omega⟩
   obtain ⟨k, rfl⟩ : ∃ k : Nat, hi = ((l + k : Nat) : Int) := ⟨hi.toNat - l, by omega⟩
   obtain ⟨W, rfl⟩ : ∃ W : Nat, w = W := ⟨w.toNat, by omega⟩
   rw [decide_eq_false (show ¬ (l : Int) < 0 by omega), decide_eq_false (show ¬ (l : Int) > ((l + k : Nat) : Int) by omega)]
   simp only [Bool.not_false, cond_true, cond_false]
   rw [decide_eq_false (show ¬ ((l + k : Nat) : Int) ≥ (W : Int) by omega), cond_false, vec_Word_ok, Option.bind_some, ref02_Bits_ok hx, Option.bind_some]
   dsimp only
   have hmv : moved x (-(l : Int)) = x / 2 ^ l := by
    unfold moved
    by_cases h0 : l = 0
    ·subst h0
     rw [if_pos (by omega), if_pos (by omega), show (-((0 : Nat) : Int)).toNat = 0 from rfl, Nat.pow_zero, Nat.mul_one, Nat.div_one, Nat.mod_eq_of_lt hx]
    ·rw [if_neg (by omega), show (-(-(l : Int))).toNat = l by omega]
   rw [word_Shr_ok hx, Option.bind_some, hmv]
   dsimp only
   have hlt : x / 2 ^ l < 340282366920938463463374607431768211456 := Nat.lt_of_le_of_lt (Nat.div_le_self _ _) hx
   rw [show IntKind.i64.wrap (IntKind.i64.wrap (((l + k : Nat) : Int) - (l : Int)) + 1) = ((k + 1 : Nat) : Int) by rw [wrap_i64 (n := ((l + k : Nat) : Int) - (l : Int)) (by omega) (by omega), wrap_i64 (by omega) (by omega)]; omega,
    show IntKind.i64.wrap (((l + k : Nat) : Int) + 1) = ((l + (k + 1) : Nat) : Int) by rw [wrap_i64 (by omega) (by omega)]; omega,
    vec_Cut_ok (by omega) (by omega) hlt, Option.bind_some, show (min (W : Int) 128).toNat = W by omega, subL_lrow _ (by omega), Option.bind_some, Int.toNat_natCast]
   have he : (lrow (k + 1) fun j => x.testBit (l + j)) = lrow (k + 1) (x / 2 ^ l).testBit := lrow_ext fun j _ => by rw [Nat.testBit_div_two_pow, Nat.add_comm j l]
   rw [he, ref02_Of_ok (by omega)]
   exact ⟨_, _, rfl, rfl⟩
  ·have hc : (bif (bif decide (lo < 0) then true else (bif !decide (lo < 0) then decide (lo > hi) else false)) then true else (bif !(bif decide (lo < 0) then true else (bif !decide (lo < 0) then decide (lo > hi) else false)) then decide (hi ≥ (bif !(bif decide (lo < 0) then true else (bif !decide (lo < 0) then decide (lo > hi) else false)) then w else 0)) else false)) = true := by
    by_cases h4 : lo < 0
    ·rw [decide_eq_true h4]; rfl
    ·rw [decide_eq_false h4]
     by_cases h5 : lo > hi
     ·rw [decide_eq_true h5]; rfl
     ·rw [decide_eq_false h5]
      simp only [Bool.not_false, cond_true, cond_false]
      rw [decide_eq_true (by omega)]
   rw [hc]
   exact ⟨_, _, rfl, rfl⟩

theorem vec_Text_ok {w : Int} {x : Nat} (hm : may w x = true) (hx : x < 340282366920938463463374607431768211456) : vec_Text (vw w x) = some ((text 10 w.toNat ++ [39] ++ text 16 x, ()), ()) := by
 have hpv : ((vw w x).1, (vw w x).2.1, (vw w x).2.2.1, ()) = vw w x := rfl
 obtain ⟨h1, h2, h3⟩ := may_of hm
 obtain ⟨W, rfl⟩ : ∃ W : Nat, w = W := ⟨w.toNat, by omega⟩
 unfold vec_Text
 have e10 : word_Text (0, IntKind.u64.wrap (vw (W : Int) x).1, ()) 10 = some ((text 10 W, ()), ()) := by
  rw [show (vw (W : Int) x).1 = (W : Int) from rfl, u64_small (by omega), wp_small (by omega)]
  exact word_Text_ok (b := 10) (by omega) (by omega) (by omega)
 have e16 : word_Text (wp x) 16 = some ((text 16 x, ()), ()) := word_Text_ok (b := 16) hx (by omega) (by omega)
 have hl1 := text_len (b := 10) (w := W) (by omega) (by omega)
 have hl2 := text_len (b := 16) (w := x) (by omega) hx
 rw [hpv, vec_May_ok hx, Option.bind_some, hm, Bool.not_true, cond_false, e10, Option.bind_some]
 dsimp only
 rw [show catI (text 10 W) [39] = some (text 10 W ++ [39]) by unfold catI; rw [if_pos (by simp only [List.length_cons, List.length_nil]; omega)], Option.bind_some, vec_Word_ok, Option.bind_some]
 dsimp only
 rw [e16, Option.bind_some]
 dsimp only
 rw [show catI (text 10 W ++ [39]) (text 16 x) = some (text 10 W ++ [39] ++ text 16 x) by unfold catI; rw [if_pos (by simp only [List.length_append, List.length_cons, List.length_nil]; omega)], Option.bind_some, Int.toNat_natCast]

end Go.L

namespace Go.L
open Go Go.Pv
set_option maxRecDepth 100000

theorem subL_take {α : Type} {s : List α} {i : Nat} (h : i ≤ s.length) : subL s 0 (i : Int) = some (s.take i) := by
 unfold subL
 rw [if_pos (by omega)]
 simp

theorem subL_drop {α : Type} {s : List α} {i : Nat} (h : i ≤ s.length) : subL s (i : Int) (s.length : Int) = some (s.drop i) := by
 unfold subL
 rw [if_pos (by omega)]
 simp

theorem cut_some {s : List Int} {i : Nat} (hs : s.length ≤ 1000000) (h : (List.range s.length).find? (fun i => decide (s.getD i 0 = 39)) = some i) : strings_Cut s [39] = some ((s.take i, s.drop (i + 1), true, ()), ()) := by
 obtain ⟨hp, hi, hall⟩ := List.find?_range_eq_some.1 h
 have hi := List.mem_range.1 hi
 have hix : internal_stringslite_Index s [39] = some (((i : Int), ()), ()) := by
  unfold internal_stringslite_Index
  simp only [gsome, show decide ((([39] : List Int).length : Int) = 0) = false by decide, show decide ((([39] : List Int).length : Int) = 1) = true by decide, Bool.not_false, cond_true, cond_false]
  by_cases e : [39] = s
  ·subst e
   have : i = 0 := by simp only [List.length_cons, List.length_nil] at hi; omega
   subst this
   rw [decide_eq_true rfl]
   rfl
  ·rw [decide_eq_false e]
   simp only [cond_false]
   show (internal_stringslite_IndexByte s 39).bind _ = _
   unfold internal_stringslite_IndexByte internal_bytealg_IndexByteString indexF idxI
   rw [h]
   rfl
 unfold strings_Cut internal_stringslite_Cut
 rw [hix, Option.bind_some]
 dsimp only
 rw [decide_eq_true (show (i : Int) ≥ 0 by omega), cond_true, subL_take (by omega), Option.bind_some, show IntKind.i64.wrap ((i : Int) + (([39] : List Int).length : Int)) = ((i + 1 : Nat) : Int) from wi64 (by omega), subL_drop (by omega)]
 rfl

theorem cut_none {s : List Int} (h : (List.range s.length).find? (fun i => decide (s.getD i 0 = 39)) = none) : strings_Cut s [39] = some ((s, [], false, ()), ()) := by
 have hall := List.find?_range_eq_none.1 h
 have hix : internal_stringslite_Index s [39] = some ((-1, ()), ()) := by
  unfold internal_stringslite_Index
  simp only [gsome, show decide ((([39] : List Int).length : Int) = 0) = false by decide, show decide ((([39] : List Int).length : Int) = 1) = true by decide, Bool.not_false, cond_true, cond_false]
  have e : ¬ [39] = s := by
   rintro rfl
   have := hall 0 (by decide)
   simp at this
  rw [decide_eq_false e]
  simp only [cond_false]
  show (internal_stringslite_IndexByte s 39).bind _ = _
  unfold internal_stringslite_IndexByte internal_bytealg_IndexByteString indexF idxI
  rw [h]
  rfl
 unfold strings_Cut internal_stringslite_Cut
 rw [hix]
 rfl

theorem parses16 {l : List Int} (hl : l.length < 1000000000) : ∃ w c, w < 340282366920938463463374607431768211456 ∧ word_Parse l 16 = some ((wp w, c, ()), ()) ∧ ref01_Parse l 16 = some ((rowB (BitVec.ofNat 128 w), c, ()), ()) ∧ (c = 0 ∨ c = 3 ∨ c = 4 ∨ c = 7) := by
 by_cases he : l = []
 ·subst he
  exact ⟨0, 3, by omega, by rw [word_Parse_empty (by omega)]; rfl, ref01_Parse_empty (by omega), .inr (.inl rfl)⟩
 ·refine ⟨_, _, read_lt 16 l 0, word_Parse_ok (b := 16) (by omega) (by omega) he hl, ref01_Parse_ok (b := 16) (by omega) (by omega) he hl, ?_⟩
  unfold read
  split
  ·exact .inr (.inr (.inl rfl))
  ·split
   ·exact .inr (.inr (.inr rfl))
   ·exact .inl rfl

theorem wrap_width {n : Nat} (h : n < 18446744073709551616) : decide (1 ≤ IntKind.i64.wrap (n : Int) ∧ IntKind.i64.wrap (n : Int) ≤ 128) = decide (1 ≤ n ∧ n ≤ 128) := by
 refine decide_eq_decide.2 ?_
 by_cases hn : n < 9223372036854775808
 ·rw [wrap_i64 (by omega) (by omega)]; omega
 ·have : IntKind.i64.wrap (n : Int) = (n : Int) - 18446744073709551616 := by
   simp only [IntKind.wrap, IntKind.signed, IntKind.bits]
   simp
   omega
  rw [this]; omega

theorem vec_New_ok {w : Int} {x : Nat} (h1 : 1 ≤ w) (h2 : w ≤ 128) (hx : x < 340282366920938463463374607431768211456) : vec_New w (wp x).1 (wp x).2.1 = some (((bif decide ((bitLen x : Int) ≤ w) then (vw w x, 0, ()) else ((0, 0, 0, ()), 7, ())) : (Int × Int × Int × Unit) × Int × Unit), ()) := by
 unfold vec_New
 rw [width_ok, Option.bind_some, decide_eq_true (show 1 ≤ w ∧ w ≤ 128 from ⟨h1, h2⟩)]
 simp only [Bool.not_true, cond_false]
 rw [show ((w, (wp x).1, (wp x).2.1, ()) : Int × Int × Int × Unit) = vw w x from rfl, vec_May_ok hx, Option.bind_some]
 have : may w x = decide ((bitLen x : Int) ≤ w) := decide_eq_decide.2 ⟨fun h => h.2, fun h => ⟨⟨h1, h2⟩, h⟩⟩
 rw [this]
 cases decide ((bitLen x : Int) ≤ w) <;> rfl

theorem vparses {s : List Int} (hs : s.length ≤ 100000) : ∃ v c, vec_Parse s = some ((v, c, ()), ()) ∧ ref02_Parse s = some ((v, c, ()), ()) := by
 unfold vec_Parse ref02_Parse
 cases hf : (List.range s.length).find? (fun i => decide (s.getD i 0 = 39)) with
 | none =>
  rw [cut_none hf, Option.bind_some]
  have hall := List.find?_range_eq_none.1 hf
  refine ⟨(0, 0, 0, ()), 4, rfl, ?_⟩
  refine loop_up (f := fun (z : ((List Int) × Int × Unit) × ((Int × Int × Int × Unit) × Unit)) => ref02_Parse_s0 z.1.1 z.1.2.1 z.2.1) (fun i => ((s, (i : Int), ()), (0, 0, 0, ()), ())) s.length ?_ ?_ 0 (by omega)
  ·intro i hi
   dsimp only
   unfold ref02_Parse_s0
   have h9 : ¬ s.getD i 0 = 39 := by simpa using hall i hi
   rw [decide_eq_true (show (i : Int) < (s.length : Int) by omega), rd_getD hi]
   simp only [gsome, gtrue, cond_true, decide_eq_false h9, Bool.not_false, wi64 (show i < 1000000000 by omega)]
  ·dsimp only
   unfold ref02_Parse_s0
   rw [decide_eq_false (show ¬ (s.length : Int) < (s.length : Int) by omega), decide_eq_true (show (s.length : Int) = (s.length : Int) from rfl)]
   simp only [gsome, gfalse, cond_false, cond_true, Bool.not_true]
   rfl
 | some i =>
  obtain ⟨hp, hi, hall⟩ := List.find?_range_eq_some.1 hf
  have hi := List.mem_range.1 hi
  have h39 : s.getD i 0 = 39 := of_decide_eq_true hp
  rw [cut_some (by omega) hf, Option.bind_some]
  have key : ∀ r, ref02_Parse_s0 s (i : Int) (0, 0, 0, ()) = some (.inr r) → loopR (fun (z : ((List Int) × Int × Unit) × ((Int × Int × Int × Unit) × Unit)) => ref02_Parse_s0 z.1.1 z.1.2.1 z.2.1) ((s, 0, ()), (0, 0, 0, ()), ()) = some r := by
   intro r hr
   refine loop_up (f := fun (z : ((List Int) × Int × Unit) × ((Int × Int × Int × Unit) × Unit)) => ref02_Parse_s0 z.1.1 z.1.2.1 z.2.1) (fun i => ((s, (i : Int), ()), (0, 0, 0, ()), ())) i ?_ hr 0 (by omega)
   intro j hj
   dsimp only
   unfold ref02_Parse_s0
   have h9 : ¬ s.getD j 0 = 39 := by simpa using hall j hj
   rw [decide_eq_true (show (j : Int) < (s.length : Int) by omega), rd_getD (show j < s.length by omega)]
   simp only [gsome, gtrue, cond_true, decide_eq_false h9, Bool.not_false, wi64 (show j < 1000000000 by omega)]
  have hred : ∀ r, ref02_Parse_s0 s (i : Int) (0, 0, 0, ()) = r ↔ ref02_Parse_s0 s (i : Int) (0, 0, 0, ()) = r := fun _ => Iff.rfl
  have htl : ((s.take i).length : Int) = (i : Int) := by rw [List.length_take]; omega
  obtain ⟨w1, c1, hw1, a1, b1, _⟩ := parses (l := s.take i) (b := 10) (by rw [List.length_take]; omega)
  obtain ⟨w2, c2, hw2, a2, b2, hc2⟩ := parses16 (l := s.drop (i + 1)) (by rw [List.length_drop]; omega)
  have hb : w1 % 18446744073709551616 < 18446744073709551616 := Nat.mod_lt _ (by omega)
  simp only [Bool.not_true, Bool.not_false, gsome, cond_true, cond_false, htl]
  by_cases h3 : (i : Int) > 3
  ·rw [decide_eq_true h3]
   refine ⟨_, _, rfl, key _ ?_⟩
   unfold ref02_Parse_s0
   rw [decide_eq_true (show (i : Int) < (s.length : Int) by omega), rd_getD hi, h39]
   simp only [gsome, gtrue, cond_true, cond_false, decide_true, Bool.not_true, decide_eq_false (show ¬ (i : Int) = (s.length : Int) by omega), Bool.not_false, decide_eq_false (show ¬ (i : Int) < 1 by omega), decide_eq_true h3, Option.map_some]
  ·rw [decide_eq_false h3]
   simp only [cond_false, a1, a2, Option.bind_some]
   by_cases h0 : i = 0
   ·subst h0
    have hc1 : c1 = 3 := by
     have := word_Parse_empty (b := 10) (by omega)
     rw [List.take_zero] at a1
     rw [a1] at this
     exact (Prod.mk.inj (Prod.mk.inj (Prod.mk.inj (Option.some.inj this)).1).2).1
    subst hc1
    refine ⟨(0, 0, 0, ()), 4, rfl, key _ ?_⟩
    unfold ref02_Parse_s0
    rw [decide_eq_true (show ((0 : Nat) : Int) < (s.length : Int) by omega), rd_getD hi, h39]
    simp only [gsome, gtrue, cond_true, cond_false, decide_true, Bool.not_true, decide_eq_false (show ¬ ((0 : Nat) : Int) = (s.length : Int) by omega), Bool.not_false, decide_eq_true (show ((0 : Nat) : Int) < 1 by omega), Option.map_some]
   ·obtain ⟨R, hR⟩ : ∃ R, ref02_Parse_s0 s (i : Int) (0, 0, 0, ()) = R := ⟨_, rfl⟩
    have main := hR
    unfold ref02_Parse_s0 at main
    rw [decide_eq_true (show (i : Int) < (s.length : Int) by omega), rd_getD hi, h39] at main
    simp only [gsome, gtrue, cond_true, cond_false, decide_true, Bool.not_true, decide_eq_false (show ¬ (i : Int) = (s.length : Int) by omega), Bool.not_false, decide_eq_false (show ¬ (i : Int) < 1 by omega), decide_eq_false h3, subL_take (show i ≤ s.length by omega), Option.bind_some, b1, b2, show IntKind.i64.wrap ((i : Int) + 1) = ((i + 1 : Nat) : Int) from wi64 (by omega), subL_drop (show i + 1 ≤ s.length by omega), halves_wp hw1, halves_wp hw2, ref01_Len_ok, BitVec.toNat_ofNat, Nat.mod_eq_of_lt (show w2 < 2 ^ 128 from hw2)] at main
    have hlo : (wp w1).2.1 = ((w1 % 18446744073709551616 : Nat) : Int) := rfl
    rw [hlo] at main ⊢
    generalize w1 % 18446744073709551616 = m at hb main ⊢
    by_cases e1 : c1 = 0
    ·subst e1
     rcases hc2 with rfl | rfl | rfl | rfl
     ·
      rw [width_ok, wrap_width hb]
      by_cases hm : 1 ≤ m ∧ m ≤ 128
      ·have hwm : IntKind.i64.wrap (m : Int) = (m : Int) := wrap_i64 (by omega) (by omega)
       rw [hwm] at main ⊢
       rw [decide_eq_false (show ¬ (m : Int) < 1 by omega), decide_eq_false (show ¬ (m : Int) > 128 by omega)] at main
       simp only [decide_true, show decide ((0 : Int) = 4) = false by decide, show decide ((0 : Int) = 3) = false by decide, Bool.not_true, Bool.not_false, cond_true, cond_false, gtrue, ref01_Len_ok, BitVec.toNat_ofNat, Nat.mod_eq_of_lt (show w2 < 2 ^ 128 from hw2), Option.bind_some] at main
       rw [decide_eq_true hm, vec_New_ok (by omega) (by omega) hw2]
       by_cases hl : (bitLen w2 : Int) ≤ (m : Int)
       ·rw [decide_eq_false (show ¬ (bitLen w2 : Int) > (m : Int) by omega)] at main
        rw [decide_eq_true hl]
        exact ⟨_, _, rfl, key _ (hR.trans main.symm)⟩
       ·rw [decide_eq_true (show (bitLen w2 : Int) > (m : Int) by omega)] at main
        rw [decide_eq_false hl]
        exact ⟨_, _, rfl, key _ (hR.trans main.symm)⟩
      ·have hbad : (bif decide ((m : Int) < 1) then true else (bif !decide ((m : Int) < 1) then decide ((m : Int) > 128) else false)) = true := by
        by_cases h : (m : Int) < 1
        ·rw [decide_eq_true h]; rfl
        ·rw [decide_eq_false h, decide_eq_true (by omega)]; rfl
       rw [hbad] at main
       rw [decide_eq_false hm]
       exact ⟨_, _, rfl, key _ (hR.trans main.symm)⟩
     ·exact ⟨_, _, rfl, key _ (hR.trans main.symm)⟩
     ·exact ⟨_, _, rfl, key _ (hR.trans main.symm)⟩
     ·rw [width_ok, wrap_width hb]
      by_cases hm : 1 ≤ m ∧ m ≤ 128
      ·rw [decide_eq_false (show ¬ (m : Int) < 1 by omega), decide_eq_false (show ¬ (m : Int) > 128 by omega)] at main
       simp only [decide_true, show decide ((7 : Int) = 4) = false by decide, show decide ((7 : Int) = 3) = false by decide, show decide ((7 : Int) = 0) = false by decide, Bool.not_true, Bool.not_false, cond_true, cond_false, gfalse] at main
       rw [decide_eq_true hm]
       exact ⟨_, _, rfl, key _ (hR.trans main.symm)⟩
      ·have hbad : (bif decide ((m : Int) < 1) then true else (bif !decide ((m : Int) < 1) then decide ((m : Int) > 128) else false)) = true := by
        by_cases h : (m : Int) < 1
        ·rw [decide_eq_true h]; rfl
        ·rw [decide_eq_false h, decide_eq_true (by omega)]; rfl
       rw [hbad] at main
       rw [decide_eq_false hm]
       exact ⟨_, _, rfl, key _ (hR.trans main.symm)⟩
    ·rw [decide_eq_false e1] at main ⊢
     exact ⟨_, _, rfl, key _ (hR.trans main.symm)⟩

end Go.L
