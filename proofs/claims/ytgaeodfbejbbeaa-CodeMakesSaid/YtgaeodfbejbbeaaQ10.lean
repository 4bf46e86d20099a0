/- The functions that the statements reach as plain Lean, and what they compute. -/
import Derived.Test.YtgaeodfbejbbeaaQ9

set_option linter.unusedSimpArgs false
set_option linter.unusedVariables false

namespace Go.L
open Go Go.Pv
set_option maxRecDepth 100000

/-! ### loops that count -/
theorem loop_up {σ ρ : Type} {f : σ → Option (σ ⊕ ρ)} (st : Nat → σ) (n : Nat) {r : ρ} (step : ∀ i, i < n → f (st i) = some (.inl (st (i + 1)))) (stop : f (st n) = some (.inr r)) : ∀ k, k ≤ n → loopR f (st k) = some r := by
  intro k hk
  induction h : n - k generalizing k with
  | zero =>
    have : k = n := by omega
    subst this
    exact loopR_out stop
  | succ m ih => exact loopR_on (step k (by omega)) (ih (k + 1) (by omega) (by omega))

theorem ck_nat {β : Type} {i n : Nat} (h : i < n) (k : Int → Option β) : (Option.map (fun _ => (i : Int)) (ckI (i : Int) n)).bind k = k i := by
  unfold ckI
  rw [if_pos ⟨by omega, by omega⟩]
  rfl

theorem wi64 {i : Nat} (h : i < 1000000000) : IntKind.i64.wrap ((i : Int) + 1) = ((i + 1 : Nat) : Int) := by
  rw [wrap_i64 (by omega) (by omega)]; omega

theorem nbeq {i j : Nat} (h : i ≠ j) : Nat.beq i j = false := by
  cases hb : Nat.beq i j with
  | false => rfl
  | true => exact absurd (Nat.eq_of_beq_eq_true hb) h

/-! ### rows -/
def row (f : Nat → Bool) : List Bool := (List.range 128).map f

theorem row_len (f : Nat → Bool) : (row f).length = 128 := by simp [row]

theorem row_get (f : Nat → Bool) {i : Nat} (h : i < 128) : (row f)[i]? = some (f i) := by simp [row, h]

theorem row_ext {f g : Nat → Bool} (h : ∀ i, i < 128 → f i = g i) : row f = row g := by
  unfold row
  exact List.map_congr_left fun i hi => h i (List.mem_range.1 hi)

theorem row_rd (f : Nat → Bool) {i : Nat} (h : i < 128) : rdI (row f) (i : Int) = some (f i) := by
  unfold rdI
  rw [if_pos (by omega)]
  simpa using row_get f h

theorem row_st (f : Nat → Bool) {i : Nat} (h : i < 128) (v : Bool) : stI (row f) (i : Int) v = some (row fun j => bif Nat.beq j i then v else f j) := by
  unfold stI
  rw [if_pos ⟨by omega, by rw [row_len]; simpa using h⟩]
  congr 1
  apply List.ext_getElem?
  intro j
  rw [List.getElem?_set, Int.toNat_natCast]
  by_cases hj : j < 128
  · rw [row_get _ hj]
    by_cases e : i = j
    · subst e
      rw [if_pos rfl, if_pos (by rw [row_len]; exact hj), row_get _ hj, Nat.beq_refl]
      rfl
    · rw [if_neg e, row_get _ hj, nbeq (fun h => e h.symm)]
      rfl
  · have h1 : ∀ g : Nat → Bool, (row g)[j]? = none := fun g => List.getElem?_eq_none (by rw [row_len]; omega)
    rw [h1, h1, if_neg (by omega)]

theorem row_zero : List.replicate 128 false = row fun _ => false := by decide

/-- a number's bits -/
def rowB (x : BitVec 128) : List Bool := row x.getLsbD

/-- a row that is made bit by bit, from the lowest on -/
def bld (f : Nat → Bool) (i : Nat) : List Bool := row fun j => decide (j < i) && f j

theorem bld_st (f : Nat → Bool) {i : Nat} (hi : i < 128) {v : Bool} (hv : v = f i) : stI (bld f i) (i : Int) v = some (bld f (i + 1)) := by
  unfold bld
  rw [row_st _ hi]
  congr 1
  refine row_ext fun j hj => ?_
  by_cases e : j = i
  · subst e; simp [hv]
  · rw [nbeq e]
    simp only [cond_false]
    congr 1
    by_cases h : j < i
    · simp [h]; omega
    · simp [h]; omega

theorem bld_zero (f : Nat → Bool) : bld f 0 = List.replicate 128 false := by rw [row_zero]; exact row_ext fun i _ => by simp
theorem bld_full (f : Nat → Bool) : bld f 128 = row f := row_ext fun i hi => by simp [hi]

theorem bld_skip (f : Nat → Bool) {i : Nat} (hv : f i = false) : bld f (i + 1) = bld f i := by
  refine row_ext fun j _ => ?_
  by_cases e : j = i
  · subst e; simp [hv]
  · by_cases h : j < i
    · simp [h]; omega
    · simp [h]; omega

theorem gsome {α β : Type} (b : Bool) (v d : β) (k : β → Option α) : guardR b (some v) d k = k (bif b then v else d) := rfl
theorem gtrue {α β : Type} (x : Option β) (d : β) (k : β → Option α) : guardR true x d k = x.bind k := by cases x <;> rfl
theorem gfalse {α β : Type} (x : Option β) (d : β) (k : β → Option α) : guardR false x d k = k d := by cases x <;> rfl

/-! ### sums -/
theorem ref01_Sum_ok (x y : BitVec 128) (c : Bool) : ref01_Sum (rowB x) (rowB y) c = some ((rowB (x + y + BitVec.setWidth 128 (BitVec.ofBool c)), BitVec.carry 128 x y c, ()), ()) := by
  unfold ref01_Sum
  let r := bld (x + y + BitVec.setWidth 128 (BitVec.ofBool c)).getLsbD
  have key := loop_up (f := fun (z : (Bool × Int × Unit) × ((List Bool) × (List Bool) × (List Bool) × (List Bool) × Unit)) => ref01_Sum_s0 z.1.1 z.1.2.1 z.2.1 z.2.2.1 z.2.2.2.1 z.2.2.2.2.1)
    (fun i => ((BitVec.carry i x y c, (i : Int), ()), rowB x, rowB y, List.replicate 128 false, r i, ())) 128 (r := ((rowB (x + y + BitVec.setWidth 128 (BitVec.ofBool c)), BitVec.carry 128 x y c, ()), ())) ?_ ?_ 0 (by omega)
  · have hc : BitVec.carry 0 x y c = c := BitVec.carry_zero
    simp only [r, bld_zero, hc] at key
    exact key
  · intro i hi
    have hb := BitVec.getLsbD_add_add_bool hi x y c
    have hs := BitVec.carry_succ i x y c
    simp only
    unfold ref01_Sum_s0
    rw [show decide ((i : Int) < 128) = true from decide_eq_true (by omega), cond_true]
    simp only [ck_nat hi, rowB, row_rd _ hi, Option.bind_some, wi64 (show i < 1000000000 by omega)]
    rw [hs]
    cases hx : x.getLsbD i <;> cases hy : y.getLsbD i <;> cases hcc : BitVec.carry i x y c <;> simp only [cond_true, cond_false] <;>
      (rw [bld_st _ hi (by rw [hb, hx, hy, hcc]; decide)]; simp only [Option.bind_some]; rfl)
  · simp only
    unfold ref01_Sum_s0
    rw [show decide (((128 : Nat) : Int) < 128) = false from decide_eq_false (by omega), cond_false]
    simp only [r, bld_full]
    rfl

theorem ref01_Turned_ok (x : BitVec 128) : ref01_Turned (rowB x) = some ((rowB (~~~x), ()), ()) := by
  unfold ref01_Turned
  have key := loop_up (f := fun (z : (Int × Unit) × ((List Bool) × (List Bool) × (List Bool) × Unit)) => ref01_Turned_s0 z.1.1 z.2.1 z.2.2.1 z.2.2.2.1)
    (fun i => (((i : Int), ()), rowB x, List.replicate 128 false, bld (~~~x).getLsbD i, ())) 128 (r := ((rowB (~~~x), ()), ())) ?_ ?_ 0 (by omega)
  · simp only [bld_zero] at key
    exact key
  · intro i hi
    simp only
    unfold ref01_Turned_s0
    rw [show decide ((i : Int) < 128) = true from decide_eq_true (by omega), cond_true]
    simp only [ck_nat hi, rowB, row_rd _ hi, Option.bind_some, wi64 (show i < 1000000000 by omega)]
    rw [bld_st _ hi (by simp [hi])]
    rfl
  · simp only
    unfold ref01_Turned_s0
    rw [show decide (((128 : Nat) : Int) < 128) = false from decide_eq_false (by omega), cond_false, bld_full]
    rfl

/-! ### which is below -/
theorem nat_lt_bit {n m i : Nat} (hn : n.testBit i = false) (hm : m.testBit i = true) (h : ∀ j, i < j → n.testBit j = m.testBit j) : n < m := by
  have h1 : n / 2 ^ (i + 1) = m / 2 ^ (i + 1) := by
    apply Nat.eq_of_testBit_eq
    intro j
    rw [Nat.testBit_div_two_pow, Nat.testBit_div_two_pow]
    exact h _ (by omega)
  rw [Nat.testBit_eq_decide_div_mod_eq] at hn hm
  have hn := of_decide_eq_false hn
  have hm := of_decide_eq_true hm
  rw [Nat.pow_succ, ← Nat.div_div_eq_div_mul, ← Nat.div_div_eq_div_mul] at h1
  have : n / 2 ^ i < m / 2 ^ i := by omega
  rcases Nat.lt_or_ge n m with h | h
  · exact h
  · have := Nat.div_le_div_right (c := 2 ^ i) h
    omega

theorem lt_bit {x y : BitVec 128} {i : Nat} (hi : i < 128) (hab : ∀ j, i < j → j < 128 → x.getLsbD j = y.getLsbD j) (h : x.getLsbD i ≠ y.getLsbD i) : decide (x.toNat < y.toNat) = y.getLsbD i := by
  have hj : ∀ j, i < j → x.toNat.testBit j = y.toNat.testBit j := fun j hj => by
    by_cases h : j < 128
    · exact hab j hj h
    · rw [Nat.testBit_lt_two_pow (Nat.lt_of_lt_of_le x.isLt (Nat.pow_le_pow_right (by omega) (by omega))), Nat.testBit_lt_two_pow (Nat.lt_of_lt_of_le y.isLt (Nat.pow_le_pow_right (by omega) (by omega)))]
  cases hy : y.getLsbD i with
  | true =>
    have hx : x.getLsbD i = false := by cases hx : x.getLsbD i <;> simp_all
    exact decide_eq_true (nat_lt_bit (i := i) hx hy hj)
  | false =>
    have hx : x.getLsbD i = true := by cases hx : x.getLsbD i <;> simp_all
    have := nat_lt_bit (n := y.toNat) (m := x.toNat) (i := i) hy hx fun j h => (hj j h).symm
    exact decide_eq_false (by omega)

theorem wi64d {i : Nat} (h : i < 1000000000) : IntKind.i64.wrap ((i : Int) - 1) = (i : Int) - 1 := wrap_i64 (by omega) (by omega)

/-- a loop that counts down from n - 1 -/
theorem loop_down {σ ρ : Type} {f : σ → Option (σ ⊕ ρ)} (st : Nat → σ) (I : Nat → Prop) {r : ρ} (step : ∀ i, I (i + 1) → (f (st (i + 1)) = some (.inl (st i)) ∧ I i) ∨ f (st (i + 1)) = some (.inr r)) (stop : I 0 → f (st 0) = some (.inr r)) : ∀ n, I n → loopR f (st n) = some r
  | 0, h => loopR_out (stop h)
  | n + 1, h => by
    rcases step n h with ⟨h1, h2⟩ | h1
    · exact loopR_on h1 (loop_down st I step stop n h2)
    · exact loopR_out h1

theorem dpos (i : Nat) : decide ((((i + 1 : Nat) : Int) - 1) ≥ 0) = true := decide_eq_true (by omega)
theorem dneg : decide ((((0 : Nat) : Int) - 1) ≥ 0) = false := decide_eq_false (by omega)
theorem pm (i : Nat) : (((i + 1 : Nat) : Int) - 1) = (i : Int) := by omega

theorem ref01_Less_ok (x y : BitVec 128) : ref01_Less (rowB x) (rowB y) = some ((decide (x.toNat < y.toNat), ()), ()) := by
  unfold ref01_Less
  have key := loop_down (f := fun (z : (Int × Unit) × ((List Bool) × (List Bool) × Unit)) => ref01_Less_s0 z.1.1 z.2.1 z.2.2.1)
    (fun i => ((((i : Nat) : Int) - 1, ()), rowB x, rowB y, ())) (fun i => i ≤ 128 ∧ ∀ j, i ≤ j → j < 128 → x.getLsbD j = y.getLsbD j) (r := ((decide (x.toNat < y.toNat), ()), ())) ?_ ?_ 128 ⟨by omega, fun j h1 h2 => by omega⟩
  · exact key
  · intro i ⟨hi, hI⟩
    have hi' : i < 128 := by omega
    simp only
    unfold ref01_Less_s0
    rw [dpos, cond_true, pm]
    simp only [ck_nat hi', rowB, row_rd _ hi', Option.bind_some]
    by_cases he : x.getLsbD i = y.getLsbD i
    · left
      rw [decide_eq_true he, Bool.not_true, cond_false, wi64d (by omega)]
      refine ⟨rfl, by omega, fun j h1 h2 => ?_⟩
      by_cases e : j = i
      · rw [e]; exact he
      · exact hI j (by omega) h2
    · right
      rw [decide_eq_false he, Bool.not_false, cond_true, lt_bit hi' (fun j h1 h2 => hI j (by omega) h2) he]
  · intro ⟨_, hI⟩
    have : x = y := BitVec.eq_of_getLsbD_eq fun i hi => hI i (by omega) hi
    subst this
    simp only
    unfold ref01_Less_s0
    rw [dneg, cond_false, decide_eq_false (Nat.lt_irrefl _)]

theorem ref01_Minus_ok (x y : BitVec 128) : ref01_Minus (rowB x) (rowB y) = some ((rowB (x - y), decide (x.toNat < y.toNat), ()), ()) := by
  unfold ref01_Minus
  rw [ref01_Turned_ok, Option.bind_some, ref01_Sum_ok, Option.bind_some, ref01_Less_ok, Option.bind_some]
  have : x + ~~~y + BitVec.setWidth 128 (BitVec.ofBool true) = x - y := by
    rw [BitVec.sub_eq_add_neg, BitVec.neg_eq_not_add, BitVec.add_assoc]
    rfl
  rw [this]

/-! ### moved -/
theorem ref01_Moved_ok (x : BitVec 128) (n : Int) : ref01_Moved (rowB x) n = some ((rowB (if 0 ≤ n ∧ n < 128 then x <<< n.toNat else if -128 < n ∧ n < 0 then x >>> (-n).toNat else 0), ()), ()) := by
  unfold ref01_Moved
  let g : BitVec 128 := if 0 ≤ n ∧ n < 128 then x <<< n.toNat else if -128 < n ∧ n < 0 then x >>> (-n).toNat else 0
  have hg : ∀ i, i < 128 → g.getLsbD i = if -128 < n ∧ n < 128 ∧ 0 ≤ (i : Int) - n ∧ (i : Int) - n < 128 then x.getLsbD ((i : Int) - n).toNat else false := by
    intro i hi
    simp only [g]
    by_cases h1 : 0 ≤ n ∧ n < 128
    · rw [if_pos h1, BitVec.getLsbD_shiftLeft]
      by_cases h2 : 0 ≤ (i : Int) - n
      · rw [if_pos ⟨by omega, by omega, h2, by omega⟩, show ((i : Int) - n).toNat = i - n.toNat by omega]
        simp [hi]; omega
      · rw [if_neg (by omega)]
        simp; omega
    · rw [if_neg h1]
      by_cases h2 : -128 < n ∧ n < 0
      · rw [if_pos h2, BitVec.getLsbD_ushiftRight]
        by_cases h3 : (i : Int) - n < 128
        · rw [if_pos ⟨by omega, by omega, by omega, h3⟩, show ((i : Int) - n).toNat = (-n).toNat + i by omega]
        · rw [if_neg (by omega)]
          exact BitVec.getLsbD_of_ge _ _ (by omega)
      · rw [if_neg h2, if_neg (by omega)]
        simp
  have key := loop_up (f := fun (z : (Int × Int × Unit) × ((List Bool) × (List Bool) × (List Bool) × Unit)) => ref01_Moved_s0 z.1.1 z.1.2.1 z.2.1 z.2.2.1 z.2.2.2.1)
    (fun i => ((n, (i : Int), ()), rowB x, List.replicate 128 false, bld g.getLsbD i, ())) 128 (r := ((rowB g, ()), ())) ?_ ?_ 0 (by omega)
  · simp only [bld_zero] at key
    exact key
  · intro i hi
    have hgi := hg i hi
    simp only
    unfold ref01_Moved_s0
    rw [show decide ((i : Int) < 128) = true from decide_eq_true (by omega), cond_true]
    by_cases hn : -128 < n ∧ n < 128
    · have hw : IntKind.i64.wrap ((i : Int) - n) = (i : Int) - n := wrap_i64 (by omega) (by omega)
      simp only [gsome, decide_eq_true (show n > -128 from hn.1), decide_eq_true hn.2, cond_true, hw]
      by_cases h1 : (i : Int) - n ≥ 0
      · by_cases h2 : (i : Int) - n < 128
        · simp only [decide_eq_true h1, decide_eq_true h2, cond_true]
          rw [if_pos ⟨hn.1, hn.2, h1, h2⟩] at hgi
          obtain ⟨m, hm⟩ : ∃ m : Nat, (i : Int) - n = m := ⟨_, (Int.toNat_of_nonneg h1).symm⟩
          rw [hm] at hgi ⊢
          rw [ck_nat (show m < 128 by omega)]
          simp only [rowB]
          rw [row_rd _ (by omega), Option.bind_some, ck_nat hi, bld_st _ hi (by rw [hgi]; rfl), Option.bind_some, wi64 (by omega)]
        · simp only [decide_eq_true h1, decide_eq_false h2, cond_true, cond_false]
          rw [bld_skip _ (by rw [hgi, if_neg (by omega)]), wi64 (by omega)]
      · simp only [decide_eq_false h1, cond_true, cond_false]
        rw [bld_skip _ (by rw [hgi, if_neg (by omega)]), wi64 (by omega)]
    · rw [bld_skip _ (by rw [hgi, if_neg (by omega)])]
      by_cases h1 : n > -128
      · simp only [gsome, decide_eq_true h1, decide_eq_false (show ¬ n < 128 by omega), cond_true, cond_false]
        rw [wi64 (by omega)]
      · simp only [gsome, decide_eq_false h1, cond_false]
        rw [wi64 (by omega)]
  · simp only
    unfold ref01_Moved_s0
    rw [show decide (((128 : Nat) : Int) < 128) = false from decide_eq_false (by omega), cond_false, bld_full]
    rfl

theorem moved_up (x : BitVec 128) {n : Nat} (h : n < 128) : ref01_Moved (rowB x) (n : Int) = some ((rowB (x <<< n), ()), ()) := by
  rw [ref01_Moved_ok, if_pos ⟨by omega, by omega⟩]; rfl

/-! ### how many bits -/
def bitLen (n : Nat) : Nat := if n = 0 then 0 else Nat.log2 n + 1

theorem ref01_Len_ok (x : BitVec 128) : ref01_Len (rowB x) = some (((bitLen x.toNat : Int), ()), ()) := by
  unfold ref01_Len
  have key := loop_down (f := fun (z : (Int × Unit) × ((List Bool) × Unit)) => ref01_Len_s0 z.1.1 z.2.1)
    (fun i => ((((i : Nat) : Int) - 1, ()), rowB x, ())) (fun i => i ≤ 128 ∧ x.toNat < 2 ^ i) (r := (((bitLen x.toNat : Int), ()), ())) ?_ ?_ 128 ⟨by omega, x.isLt⟩
  · exact key
  · intro i ⟨hi, hI⟩
    have hi' : i < 128 := by omega
    simp only
    unfold ref01_Len_s0
    rw [dpos, cond_true, pm, ck_nat hi', show rdI (rowB x) (i : Int) = some (x.getLsbD i) from row_rd _ hi', Option.bind_some]
    cases hb : x.getLsbD i with
    | true =>
      right
      rw [cond_true, wi64 (by omega)]
      have h2 : 2 ^ i ≤ x.toNat := Nat.ge_two_pow_of_testBit hb
      have h0 : x.toNat ≠ 0 := by have := Nat.two_pow_pos i; omega
      have : bitLen x.toNat = i + 1 := by
        unfold bitLen
        rw [if_neg h0]
        have := (Nat.log2_eq_iff h0).2 ⟨h2, hI⟩
        omega
      rw [this]
    | false =>
      left
      rw [cond_false, wi64d (by omega)]
      refine ⟨rfl, by omega, ?_⟩
      have h1 : x.toNat.testBit i = false := hb
      rw [Nat.testBit_eq_decide_div_mod_eq] at h1
      have h1 := of_decide_eq_false h1
      rw [Nat.pow_succ] at hI
      have h2 : x.toNat / 2 ^ i < 2 := Nat.div_lt_of_lt_mul (by omega)
      have h3 : x.toNat / 2 ^ i = 0 := by
        generalize x.toNat / 2 ^ i = e at h1 h2
        omega
      exact (Nat.div_eq_zero_iff_lt (Nat.two_pow_pos i)).1 h3
  · intro ⟨_, hI⟩
    simp only
    unfold ref01_Len_s0
    have : x.toNat = 0 := by simpa using hI
    rw [dneg, cond_false, this]
    rfl

/-! ### rows of halves, halves of rows -/
theorem wu64 {n : Nat} (h : n < 18446744073709551616) : IntKind.u64.wrap (n : Int) = n := wrap_u64 (by omega) (by omega)

/-- the word of two halves -/
def wd (hi lo : Nat) : BitVec 128 := BitVec.ofNat 128 (hi * 2 ^ 64 + lo)

theorem wd_bit {hi lo : Nat} (h2 : lo < 2 ^ 64) {i : Nat} (hi' : i < 128) : (wd hi lo).getLsbD i = if i < 64 then lo.testBit i else hi.testBit (i - 64) := by
  simp only [wd, BitVec.getLsbD_ofNat, hi', decide_true, Bool.true_and]
  rw [Nat.mul_comm, Nat.testBit_two_pow_mul_add _ h2]

theorem tmod2 (n i : Nat) : decide ((((n / 2 ^ i : Nat) : Int).tmod 2) = 1) = n.testBit i := by
  rw [Nat.testBit_eq_decide_div_mod_eq]
  generalize n / 2 ^ i = e
  have : (e : Int).tmod 2 = ((e % 2 : Nat) : Int) := by
    rw [Int.tmod_eq_emod_of_nonneg (by omega)]; rfl
  rw [this]
  by_cases h : e % 2 = 1
  · rw [decide_eq_true h, decide_eq_true (by omega)]
  · rw [decide_eq_false h, decide_eq_false (by omega)]

theorem tdiv2 {n : Nat} (h : n < 18446744073709551616) (i : Nat) : IntKind.u64.wrap (((n / 2 ^ i : Nat) : Int).tdiv 2) = ((n / 2 ^ (i + 1) : Nat) : Int) := by
  rw [Nat.pow_succ, ← Nat.div_div_eq_div_mul]
  have : n / 2 ^ i ≤ n := Nat.div_le_self _ _
  generalize n / 2 ^ i = e at *
  rw [Int.tdiv_eq_ediv_of_nonneg (by omega)]
  have h2 : ((e : Int) / 2) = ((e / 2 : Nat) : Int) := by omega
  rw [h2, wu64 (by omega)]

theorem ref01_Of_ok {hi lo : Nat} (h1 : hi < 18446744073709551616) (h2 : lo < 18446744073709551616) : ref01_Of (hi : Int) (lo : Int) = some ((rowB (wd hi lo), ()), ()) := by
  unfold ref01_Of
  let g : Nat → List Bool := fun i => row fun j => if j < 64 then decide (j < i) && lo.testBit j else decide (j - 64 < i) && hi.testBit (j - 64)
  have key := loop_up (f := fun (z : (Int × Int × Int × Unit) × ((List Bool) × (List Bool) × Unit)) => ref01_Of_s0 z.1.1 z.1.2.1 z.1.2.2.1 z.2.1 z.2.2.1)
    (fun i => ((((hi / 2 ^ i : Nat) : Int), ((lo / 2 ^ i : Nat) : Int), (i : Int), ()), List.replicate 128 false, g i, ())) 64 (r := ((rowB (wd hi lo), ()), ())) ?_ ?_ 0 (by omega)
  · have h0 : g 0 = List.replicate 128 false := by rw [row_zero]; exact row_ext fun i _ => by simp
    simp only [h0, Nat.pow_zero, Nat.div_one] at key
    exact key
  · intro i hi'
    simp only
    unfold ref01_Of_s0
    rw [show decide ((i : Int) < 64) = true from decide_eq_true (by omega), cond_true, ck_nat (show i < 128 by omega)]
    have hw : IntKind.i64.wrap ((i : Int) + 64) = ((i + 64 : Nat) : Int) := by rw [wrap_i64 (by omega) (by omega)]; omega
    simp only [g]
    rw [row_st _ (show i < 128 by omega), Option.bind_some]
    simp only [hw]
    rw [ck_nat (show i + 64 < 128 by omega), row_st _ (show i + 64 < 128 by omega), Option.bind_some, tdiv2 h1, tdiv2 h2, tmod2, tmod2, wi64 (by omega)]
    congr 5
    refine row_ext fun j hj => ?_
    by_cases e : j = i + 64
    · subst e; simp
    · rw [nbeq e]
      by_cases e2 : j = i
      · subst e2; simp; omega
      · rw [nbeq e2]
        simp only [cond_false]
        by_cases h64 : j < 64
        · simp only [h64, if_true]
          congr 1
          by_cases hji : j < i
          · simp [hji]; omega
          · simp [hji]; omega
        · simp only [h64, if_false]
          congr 1
          by_cases hji : j - 64 < i
          · simp [hji]; omega
          · simp [hji]; omega
  · simp only
    unfold ref01_Of_s0
    rw [show decide (((64 : Nat) : Int) < 64) = false from decide_eq_false (by omega), cond_false]
    congr 4
    refine row_ext fun j hj => ?_
    rw [wd_bit h2 hj]
    by_cases h : j < 64
    · simp [h]
    · simp [h]; omega

theorem ref01_small_ok {n : Nat} (h : n < 1000000000) : ref01_small (n : Int) = some ((rowB (BitVec.ofNat 128 n), ()), ()) := by
  unfold ref01_small
  rw [wu64 (by omega), show (0 : Int) = ((0 : Nat) : Int) from rfl, ref01_Of_ok (by omega) (by omega), Option.bind_some]
  simp [wd]

theorem ref01_Halves_ok {hi lo : Nat} (h1 : hi < 18446744073709551616) (h2 : lo < 18446744073709551616) : ref01_Halves (rowB (wd hi lo)) = some (((hi : Int), (lo : Int), ()), ()) := by
  unfold ref01_Halves
  have hs : ∀ n i : Nat, n / 2 ^ i = 2 * (n / 2 ^ (i + 1)) + (if n.testBit i then 1 else 0) := by
    intro n i
    rw [Nat.testBit_eq_decide_div_mod_eq, Nat.pow_succ, ← Nat.div_div_eq_div_mul]
    have : n / 2 ^ i % 2 = 0 ∨ n / 2 ^ i % 2 = 1 := by omega
    rcases this with h | h <;> simp [h] <;> omega
  have hle : ∀ n i : Nat, n / 2 ^ i ≤ n := fun n i => Nat.div_le_self _ _
  have key := loop_down (f := fun (z : (Int × Int × Int × Unit) × ((List Bool) × Unit)) => ref01_Halves_s0 z.1.1 z.1.2.1 z.1.2.2.1 z.2.1)
    (fun i => ((((hi / 2 ^ i : Nat) : Int), ((lo / 2 ^ i : Nat) : Int), ((i : Nat) : Int) - 1, ()), rowB (wd hi lo), ())) (fun i => i ≤ 64) (r := (((hi : Int), (lo : Int), ()), ())) ?_ ?_ 64 (by omega)
  · have e1 : hi / 2 ^ 64 = 0 := Nat.div_eq_of_lt (by omega)
    have e2 : lo / 2 ^ 64 = 0 := Nat.div_eq_of_lt (by omega)
    simp only [e1, e2] at key
    exact key
  · intro i hi'
    left
    refine ⟨?_, by omega⟩
    simp only
    unfold ref01_Halves_s0
    rw [dpos, cond_true, pm]
    have hw : IntKind.i64.wrap ((i : Int) + 64) = ((i + 64 : Nat) : Int) := by rw [wrap_i64 (by omega) (by omega)]; omega
    have hb1 : rdI (rowB (wd hi lo)) ((i + 64 : Nat) : Int) = some (hi.testBit i) := by
      rw [show rdI (rowB (wd hi lo)) ((i + 64 : Nat) : Int) = some ((wd hi lo).getLsbD (i + 64)) from row_rd _ (by omega), wd_bit h2 (by omega), if_neg (by omega), Nat.add_sub_cancel]
    have hb2 : rdI (rowB (wd hi lo)) (i : Int) = some (lo.testBit i) := by
      rw [show rdI (rowB (wd hi lo)) (i : Int) = some ((wd hi lo).getLsbD i) from row_rd _ (by omega), wd_bit h2 (by omega), if_pos (by omega)]
    have q1 := hs hi i
    have q2 := hs lo i
    have l1 := hle hi i
    have l2 := hle lo i
    have m1 : IntKind.u64.wrap (2 * ((hi / 2 ^ (i + 1) : Nat) : Int)) = ((2 * (hi / 2 ^ (i + 1)) : Nat) : Int) := by
      rw [show (2 * ((hi / 2 ^ (i + 1) : Nat) : Int)) = ((2 * (hi / 2 ^ (i + 1)) : Nat) : Int) by omega, wu64 (by omega)]
    have m2 : IntKind.u64.wrap (2 * ((lo / 2 ^ (i + 1) : Nat) : Int)) = ((2 * (lo / 2 ^ (i + 1)) : Nat) : Int) := by
      rw [show (2 * ((lo / 2 ^ (i + 1) : Nat) : Int)) = ((2 * (lo / 2 ^ (i + 1)) : Nat) : Int) by omega, wu64 (by omega)]
    simp only [hw, m1, m2]
    simp only [ck_nat (show i + 64 < 128 by omega), ck_nat (show i < 128 by omega), hb1, hb2, wi64d (show i < 1000000000 by omega), Option.bind_some]
    generalize hi / 2 ^ i = a at *
    generalize lo / 2 ^ i = b at *
    generalize hi / 2 ^ (i + 1) = c at *
    generalize lo / 2 ^ (i + 1) = d at *
    clear hb1 hb2 hs hle
    generalize hi.testBit i = p at *
    generalize lo.testBit i = q at *
    cases p <;> cases q <;> simp only [cond_true, cond_false, if_true, if_false, Bool.false_eq_true, Nat.add_zero] at q1 q2 ⊢
    · rw [q1, q2]
    · rw [show ((2 * d : Nat) : Int) + 1 = ((b : Nat) : Int) by omega, wu64 (by omega), q1]
    · rw [show ((2 * c : Nat) : Int) + 1 = ((a : Nat) : Int) by omega, wu64 (by omega), q2]
    · rw [show ((2 * c : Nat) : Int) + 1 = ((a : Nat) : Int) by omega, wu64 (by omega), show ((2 * d : Nat) : Int) + 1 = ((b : Nat) : Int) by omega, wu64 (by omega)]
  · intro _
    simp only
    unfold ref01_Halves_s0
    rw [dneg, cond_false]
    simp

end Go.L

namespace Go.L
open Go Go.Pv
set_option maxRecDepth 100000

/-! ### long division -/
theorem part_step {A d b : Nat} (hd : 0 < d) (hb : b ≤ 1) : (2 * A + b) / d = 2 * (A / d) + (if 2 * (A % d) + b < d then 0 else 1) ∧ (2 * A + b) % d = if 2 * (A % d) + b < d then 2 * (A % d) + b else 2 * (A % d) + b - d := by
  have h1 := Nat.div_add_mod A d
  have h2 := Nat.mod_lt A hd
  generalize A / d = Q at *
  generalize A % d = L at *
  by_cases h : 2 * L + b < d
  · rw [if_pos h, if_pos h]
    have := (Nat.div_mod_unique (a := 2 * A + b) (c := 2 * L + b) (d := 2 * Q) hd).2 ⟨by rw [← h1, Nat.mul_left_comm]; omega, h⟩
    exact this
  · rw [if_neg h, if_neg h]
    have := (Nat.div_mod_unique (a := 2 * A + b) (c := 2 * L + b - d) (d := 2 * Q + 1) hd).2 ⟨by rw [← h1, Nat.mul_add d (2 * Q) 1, Nat.mul_one, Nat.mul_left_comm]; omega, by omega⟩
    exact this

theorem bit_cons (L b j : Nat) (hb : b ≤ 1) : (2 * L + b).testBit j = if j = 0 then decide (b = 1) else L.testBit (j - 1) := by
  have := Nat.testBit_two_pow_mul_add L (i := 1) (b := b) (by omega) j
  rw [show 2 ^ 1 * L + b = 2 * L + b by omega] at this
  rw [this]
  by_cases h : j = 0
  · subst h
    have : b = 0 ∨ b = 1 := by omega
    rcases this with rfl | rfl <;> simp
  · rw [if_neg (by omega), if_neg h]

theorem bit_set (m i j : Nat) : (m * 2 ^ (i + 1) + 2 ^ i).testBit j = if j = i then true else (m * 2 ^ (i + 1)).testBit j := by
  have h1 := Nat.testBit_two_pow_mul_add m (i := i + 1) (b := 2 ^ i) (Nat.pow_lt_pow_right (by omega) (by omega)) j
  rw [Nat.mul_comm] at h1
  rw [h1, Nat.mul_comm m, Nat.testBit_two_pow_mul]
  by_cases e : j = i
  · subst e
    rw [if_pos (by omega), if_pos rfl, Nat.testBit_two_pow]
    simp
  · rw [if_neg e]
    by_cases h : j < i + 1
    · rw [if_pos h, Nat.testBit_two_pow, decide_eq_false (show ¬ i = j by omega), decide_eq_false (show ¬ j ≥ i + 1 by omega)]
      rfl
    · rw [if_neg h, decide_eq_true (show j ≥ i + 1 by omega)]
      rfl

theorem ref01_Part_ok (a d : BitVec 128) (hd : 0 < d.toNat) : ref01_Part (rowB a) (rowB d) = some ((rowB (BitVec.ofNat 128 (a.toNat / d.toNat)), rowB (BitVec.ofNat 128 (a.toNat % d.toNat)), ()), ()) := by
  unfold ref01_Part
  have ha := a.isLt
  have hdl := d.isLt
  have hfun : ∀ z : (Int × Unit) × ((List Bool) × (List Bool) × (List Bool) × (List Bool) × (List Bool) × (List Bool) × Unit), ref01_Part_s0 z.1.1 z.2.1 z.2.2.1 z.2.2.2.1 z.2.2.2.2.1 z.2.2.2.2.2.1 z.2.2.2.2.2.2.1 = ref01_Part_s0 z.1.1 z.2.1 z.2.2.1 z.2.2.2.1 z.2.2.2.2.1 z.2.2.2.2.2.1 z.2.2.2.2.2.2.1 := fun _ => rfl
  have key := loop_down (f := fun (z : (Int × Unit) × ((List Bool) × (List Bool) × (List Bool) × (List Bool) × (List Bool) × (List Bool) × Unit)) => ref01_Part_s0 z.1.1 z.2.1 z.2.2.1 z.2.2.2.1 z.2.2.2.2.1 z.2.2.2.2.2.1 z.2.2.2.2.2.2.1)
    (fun i => ((((i : Nat) : Int) - 1, ()), rowB a, rowB d, List.replicate 128 false, List.replicate 128 false, rowB (BitVec.ofNat 128 (a.toNat / 2 ^ i / d.toNat * 2 ^ i)), rowB (BitVec.ofNat 128 (a.toNat / 2 ^ i % d.toNat)), ())) (fun i => i ≤ 128)
    (r := ((rowB (BitVec.ofNat 128 (a.toNat / d.toNat)), rowB (BitVec.ofNat 128 (a.toNat % d.toNat)), ()), ())) ?_ ?_ 128 (by omega)
  · have h0 : a.toNat / 2 ^ 128 = 0 := Nat.div_eq_of_lt ha
    have hz : rowB (BitVec.ofNat 128 0) = List.replicate 128 false := by rw [row_zero]; exact row_ext fun i _ => by simp
    simp only [h0, Nat.zero_div, Nat.zero_mod, Nat.zero_mul, hz] at key
    exact key
  · intro i hi
    left
    refine ⟨?_, by omega⟩
    have hi' : i < 128 := by omega
    simp only
    unfold ref01_Part_s0
    rw [dpos, cond_true, pm]
    have hA : a.toNat / 2 ^ i = 2 * (a.toNat / 2 ^ (i + 1)) + (if a.toNat.testBit i then 1 else 0) := by
      rw [Nat.testBit_eq_decide_div_mod_eq, Nat.pow_succ, ← Nat.div_div_eq_div_mul]
      have : a.toNat / 2 ^ i % 2 = 0 ∨ a.toNat / 2 ^ i % 2 = 1 := by omega
      rcases this with h | h <;> simp [h] <;> omega
    obtain ⟨b, hb1, hb2, hb3⟩ : ∃ b : Nat, b ≤ 1 ∧ (if a.toNat.testBit i then 1 else 0) = b ∧ a.toNat.testBit i = decide (b = 1) := by
      cases a.toNat.testBit i
      · exact ⟨0, by omega, rfl, rfl⟩
      · exact ⟨1, by omega, rfl, rfl⟩
    rw [hb2] at hA
    have hle : a.toNat / 2 ^ i / d.toNat * 2 ^ i ≤ a.toNat := Nat.le_trans (Nat.mul_le_mul_right _ (Nat.div_le_self _ _)) (Nat.div_mul_le_self _ _)
    obtain ⟨s1, s2⟩ := part_step (A := a.toNat / 2 ^ (i + 1)) hd hb1
    rw [← hA] at s1 s2
    have hLd := Nat.mod_lt (a.toNat / 2 ^ (i + 1)) hd
    generalize hL : a.toNat / 2 ^ (i + 1) % d.toNat = L at *
    generalize hQ : a.toNat / 2 ^ (i + 1) / d.toNat = Q at *
    -- the row of what is left, moved, with the next bit
    have hrd : rdI (rowB a) (i : Int) = some (decide (b = 1)) := by rw [← hb3]; exact row_rd _ hi'
    have h127 : rdI (rowB (BitVec.ofNat 128 L)) (127 : Int) = some (decide (2 ^ 127 ≤ L)) := by
      have := row_rd (BitVec.ofNat 128 L).getLsbD (i := 127) (by omega)
      rw [show ((127 : Nat) : Int) = 127 from rfl] at this
      rw [show rdI (rowB (BitVec.ofNat 128 L)) (127 : Int) = _ from this]
      congr 1
      simp only [BitVec.getLsbD_ofNat, Nat.lt_irrefl, decide_true, Bool.true_and, show (127 : Nat) < 128 from by omega]
      rw [Nat.testBit_eq_decide_div_mod_eq]
      have h2 : L / 2 ^ 127 < 2 := Nat.div_lt_of_lt_mul (by omega)
      by_cases h : 2 ^ 127 ≤ L
      · rw [decide_eq_true h]
        have : 1 ≤ L / 2 ^ 127 := (Nat.le_div_iff_mul_le (by omega)).2 (by omega)
        exact decide_eq_true (by omega)
      · rw [decide_eq_false h, Nat.div_eq_of_lt (by omega)]
        rfl
    have hck : (Option.map (fun _ => (127 : Int)) (ckI 127 128)) = some 127 := by decide
    have hck0 : (Option.map (fun _ => (0 : Int)) (ckI 0 128)) = some 0 := by decide
    have hst : stI (rowB (BitVec.ofNat 128 L <<< 1)) (0 : Int) (decide (b = 1)) = some (rowB (BitVec.ofNat 128 (2 * L + b))) := by
      have := row_st (BitVec.ofNat 128 L <<< 1).getLsbD (i := 0) (by omega) (decide (b = 1))
      rw [show ((0 : Nat) : Int) = 0 from rfl] at this
      rw [show stI (rowB (BitVec.ofNat 128 L <<< 1)) (0 : Int) (decide (b = 1)) = _ from this]
      congr 1
      refine row_ext fun j hj => ?_
      rw [BitVec.getLsbD_ofNat, bit_cons L b j hb1]
      by_cases e : j = 0
      · subst e; simp
      · rw [nbeq e, if_neg e, cond_false, BitVec.getLsbD_shiftLeft, BitVec.getLsbD_ofNat]
        have h1 : ¬ j < 1 := by omega
        have h2 : j - 1 < 128 := by omega
        simp [hj, h1, h2]
    have hm1 : ref01_Moved (rowB (BitVec.ofNat 128 L)) (1 : Int) = some ((rowB (BitVec.ofNat 128 L <<< 1), ()), ()) := moved_up (n := 1) _ (by omega)
    rw [hck, Option.bind_some, h127, Option.bind_some, hm1, Option.bind_some, ck_nat hi', hrd, Option.bind_some, hck0, Option.bind_some, hst, Option.bind_some]
    have hless : ref01_Less (rowB (BitVec.ofNat 128 (2 * L + b))) (rowB d) = some ((decide ((2 * L + b) % 2 ^ 128 < d.toNat), ()), ()) := by
      rw [ref01_Less_ok, BitVec.toNat_ofNat]
    have hdiv : ¬ 2 * L + b < d.toNat → (ref01_Minus (rowB (BitVec.ofNat 128 (2 * L + b))) (rowB d)).bind (fun r_13 => (stI (rowB (BitVec.ofNat 128 (Q * 2 ^ (i + 1)))) (i : Int) true).bind fun v_15 =>
        (some (.inl (((IntKind.i64.wrap ((i : Int) - 1)), ()), rowB a, rowB d, List.replicate 128 false, List.replicate 128 false, v_15, r_13.1.1, ())) : Option (((Int × Unit) × ((List Bool) × (List Bool) × (List Bool) × (List Bool) × (List Bool) × (List Bool) × Unit)) ⊕ (((List Bool) × (List Bool) × Unit) × (Unit))))) =
        some (.inl (((i : Int) - 1, ()), rowB a, rowB d, List.replicate 128 false, List.replicate 128 false, rowB (BitVec.ofNat 128 (a.toNat / 2 ^ i / d.toNat * 2 ^ i)), rowB (BitVec.ofNat 128 (a.toNat / 2 ^ i % d.toNat)), ())) := by
      intro hge
      rw [if_neg hge] at s1 s2
      have e1 : BitVec.ofNat 128 (2 * L + b) - d = BitVec.ofNat 128 (2 * L + b - d.toNat) := by
        apply BitVec.eq_of_toNat_eq
        rw [BitVec.toNat_sub, BitVec.toNat_ofNat, BitVec.toNat_ofNat]
        omega
      have e2 : stI (rowB (BitVec.ofNat 128 (Q * 2 ^ (i + 1)))) (i : Int) true = some (rowB (BitVec.ofNat 128 ((2 * Q + 1) * 2 ^ i))) := by
        rw [show stI (rowB (BitVec.ofNat 128 (Q * 2 ^ (i + 1)))) (i : Int) true = _ from row_st _ hi' true]
        congr 1
        refine row_ext fun j hj => ?_
        rw [show (2 * Q + 1) * 2 ^ i = Q * 2 ^ (i + 1) + 2 ^ i by rw [Nat.pow_succ, Nat.add_mul, Nat.one_mul, Nat.mul_comm 2 Q, Nat.mul_assoc, Nat.mul_comm 2]]
        rw [BitVec.getLsbD_ofNat, BitVec.getLsbD_ofNat, bit_set]
        by_cases e : j = i
        · subst e; simp [hj]
        · rw [nbeq e, if_neg e]; rfl
      rw [ref01_Minus_ok, Option.bind_some, e2, Option.bind_some, e1, s1, s2, wi64d (by omega)]
    have hkeep : 2 * L + b < d.toNat → BitVec.ofNat 128 (Q * 2 ^ (i + 1)) = BitVec.ofNat 128 (a.toNat / 2 ^ i / d.toNat * 2 ^ i) ∧ BitVec.ofNat 128 (2 * L + b) = BitVec.ofNat 128 (a.toNat / 2 ^ i % d.toNat) := by
      intro hlt
      rw [if_pos hlt] at s1 s2
      rw [s1, s2, Nat.pow_succ, Nat.mul_comm (2 ^ i) 2, ← Nat.mul_assoc, Nat.mul_comm Q 2]
      exact ⟨rfl, rfl⟩
    simp only [gsome]
    by_cases hov : 2 ^ 127 ≤ L
    · -- what is left is above all words
      simp only [decide_eq_true hov, Bool.not_true, cond_false, gfalse, cond_true, ck_nat hi']
      exact hdiv (by omega)
    · simp only [decide_eq_false hov, Bool.not_false, cond_true, gtrue, cond_false, hless, Option.bind_some, ck_nat hi']
      rw [Nat.mod_eq_of_lt (show 2 * L + b < 2 ^ 128 by omega)]
      by_cases hlt : 2 * L + b < d.toNat
      · obtain ⟨k1, k2⟩ := hkeep hlt
        rw [decide_eq_true hlt, Bool.not_true, cond_false, k1, k2, wi64d (by omega)]
      · rw [decide_eq_false hlt, Bool.not_false, cond_true]
        exact hdiv hlt
  · intro _
    simp only
    unfold ref01_Part_s0
    rw [dneg, cond_false]
    simp

/-! ### the program's words as numbers -/
/-- the two halves of a number -/
def wp (w : Nat) : Int × Int × Unit := (((w / 18446744073709551616 : Nat) : Int), ((w % 18446744073709551616 : Nat) : Int), ())

theorem of_wp {w : Nat} (h : w < 340282366920938463463374607431768211456) : ref01_Of (wp w).1 (wp w).2.1 = some ((rowB (BitVec.ofNat 128 w), ()), ()) := by
  unfold wp
  simp only
  rw [ref01_Of_ok (by omega) (by omega)]
  unfold wd
  rw [show (2 : Nat) ^ 64 = 18446744073709551616 from by decide, show w / 18446744073709551616 * 18446744073709551616 + w % 18446744073709551616 = w by omega]

theorem bits_Sub64_eq : bits_Sub64 = sub64F := rfl

theorem word_Sub_ok {a b : Nat} (ha : a < 340282366920938463463374607431768211456) (hb : b < 340282366920938463463374607431768211456) :
    word_Sub (wp a) (wp b) = some ((wp ((a + (340282366920938463463374607431768211456 - b)) % 340282366920938463463374607431768211456), decide (a < b), ()), ()) := by
  unfold word_Sub wp
  simp only [bits_Sub64_eq, sub64F]
  rw [if_pos (by omega), Option.bind_some]
  simp only
  by_cases hlo : ((a % 18446744073709551616 : Nat) : Int) < ((b % 18446744073709551616 : Nat) : Int) + 0
  · rw [if_pos hlo, if_pos (by omega), Option.bind_some]
    dsimp only
    congr 3
    · congr 1
      · omega
      · congr 1; omega
    · congr 1
      by_cases h : a < b
      · rw [decide_eq_true h, decide_eq_true (by split <;> omega)]
      · rw [decide_eq_false h, decide_eq_false (by split <;> omega)]
  · rw [if_neg hlo, if_pos (by omega), Option.bind_some]
    dsimp only
    congr 3
    · congr 1
      · omega
      · congr 1; omega
    · congr 1
      by_cases h : a < b
      · rw [decide_eq_true h, decide_eq_true (by split <;> omega)]
      · rw [decide_eq_false h, decide_eq_false (by split <;> omega)]

end Go.L

namespace Go.L
open Go Go.Pv
set_option maxRecDepth 100000

theorem loop_meas {σ ρ : Type} {f : σ → Option (σ ⊕ ρ)} (I : σ → Prop) (μ : σ → Nat) {r : ρ} (step : ∀ x, I x → f x = some (.inr r) ∨ ∃ y, f x = some (.inl y) ∧ I y ∧ μ y < μ x) {x : σ} (h : I x) : loopR f x = some r := by
  obtain ⟨r', h1, rfl⟩ := loopR_inv I μ (fun r' => r' = r) (fun x hx => (step x hx).imp (fun h => ⟨r, h, rfl⟩) id) h
  exact h1

theorem wrapu (n : Int) : IntKind.u64.wrap n = n % 18446744073709551616 := by
  simp only [IntKind.wrap, IntKind.signed, IntKind.bits]
  simp

theorem and_mask {n : Nat} (h1 : n < 18446744073709551616) : bitsI .and .u64 (n : Int) 4294967295 = ((n % 4294967296 : Nat) : Int) := by
  have key : (BitVec.ofInt 64 (n : Int) &&& BitVec.ofInt 64 4294967295).toNat = n % 4294967296 := by
    rw [BitVec.toNat_and, BitVec.ofInt_natCast, BitVec.toNat_ofNat]
    have e2 : (BitVec.ofInt 64 4294967295).toNat = 2 ^ 32 - 1 := by decide
    rw [e2, Nat.mod_eq_of_lt (show n < 2 ^ 64 by omega), Nat.and_two_pow_sub_one_eq_mod]
  show IntKind.u64.wrap ((BitVec.ofInt 64 (n : Int) &&& BitVec.ofInt 64 4294967295).toNat : Int) = _
  rw [key, wu64 (by omega)]

theorem fdiv_pow (n k : Nat) : ((n : Int).fdiv (2 ^ k)) = ((n / 2 ^ k : Nat) : Int) := by
  rw [Int.fdiv_eq_ediv_of_nonneg _ (Int.le_of_lt (Int.pow_pos (by decide)))]
  simp

theorem shr_ok {n k : Nat} : shrI .u64 (n : Int) (k : Int) = some (((n / 2 ^ min k 64 : Nat) : Int)) := by
  unfold shrI
  rw [if_neg (by omega), Int.toNat_natCast]
  show some ((n : Int).fdiv (2 ^ (min k 64))) = _
  rw [fdiv_pow]

theorem shl_ok {n k : Nat} : shlI .u64 (n : Int) (k : Int) = some (((n * 2 ^ min k 64 % 18446744073709551616 : Nat) : Int)) := by
  unfold shlI
  rw [if_neg (by omega), Int.toNat_natCast]
  show some (IntKind.u64.wrap ((n : Int) * 2 ^ (min k 64))) = _
  rw [wrapu]
  congr 1

/-! ### one digit of a long division -/
theorem knuth {u c y1 y0 q rh : Nat} (hc : c < 4294967296) (hy1 : 2147483648 ≤ y1) (hy0 : y0 < 4294967296) (hu : u < y1 * 4294967296 + y0) (hq : q ≤ 4294967297) (hI : q * y1 + rh = u) (hQ : (u * 4294967296 + c) / (y1 * 4294967296 + y0) ≤ q) :
    (q < 4294967296 ∧ q * y0 ≤ 4294967296 * rh + c → q = (u * 4294967296 + c) / (y1 * 4294967296 + y0)) ∧
    ((4294967296 ≤ q ∨ 4294967296 * rh + c < q * y0) → 0 < q ∧ (u * 4294967296 + c) / (y1 * 4294967296 + y0) ≤ q - 1 ∧ (q - 1) * y1 + (rh + y1) = u ∧ (4294967296 ≤ rh + y1 → q - 1 = (u * 4294967296 + c) / (y1 * 4294967296 + y0))) := by
  have hy : 0 < y1 * 4294967296 + y0 := by omega
  have hqy : q * (y1 * 4294967296 + y0) = q * y1 * 4294967296 + q * y0 := by rw [Nat.mul_add, Nat.mul_assoc]
  generalize hQd : (u * 4294967296 + c) / (y1 * 4294967296 + y0) = Q at *
  have hlt : ∀ q', (u * 4294967296 + c) < q' * (y1 * 4294967296 + y0) → Q < q' := fun q' h => by rw [← hQd]; exact (Nat.div_lt_iff_lt_mul hy).2 h
  have hle : ∀ q', q' * (y1 * 4294967296 + y0) ≤ u * 4294967296 + c → q' ≤ Q := fun q' h => by rw [← hQd]; exact (Nat.le_div_iff_mul_le hy).2 h
  have hQB : Q < 4294967296 := hlt _ (by omega)
  refine ⟨fun ⟨h1, h2⟩ => ?_, fun h => ?_⟩
  · have := hle q (by rw [hqy]; omega)
    omega
  · have hgt : Q < q := by
      rcases h with h | h
      · omega
      · exact hlt q (by rw [hqy]; omega)
    have h1 : q * y1 = (q - 1) * y1 + y1 := by
      obtain ⟨m, rfl⟩ : ∃ m, q = m + 1 := ⟨q - 1, by omega⟩
      rw [Nat.add_mul, Nat.one_mul]; rfl
    refine ⟨by omega, by omega, by omega, fun hr => ?_⟩
    have h2 : (q - 1) * y0 ≤ 4294967296 * 4294967295 := Nat.mul_le_mul (by omega) (by omega)
    have := hle (q - 1) (by rw [Nat.mul_add, ← Nat.mul_assoc]; omega)
    omega

/-! ### how many bits a half has -/
theorem bitLen_of {n L : Nat} (h1 : n < 2 ^ L) (h2 : L = 0 ∨ 2 ^ (L - 1) ≤ n) : bitLen n = L := by
  unfold bitLen
  by_cases h : n = 0
  · subst h
    rcases h2 with rfl | h2
    · rfl
    · have := Nat.two_pow_pos (L - 1); omega
  · rw [if_neg h]
    have hL : L ≠ 0 := by rintro rfl; simp at h1; exact h h1
    have := (Nat.log2_eq_iff (k := L - 1) h).2 ⟨h2.resolve_left hL, by rw [Nat.sub_add_cancel (by omega)]; exact h1⟩
    omega

theorem bitLen_spec (n : Nat) : n < 2 ^ bitLen n ∧ (bitLen n = 0 ∨ 2 ^ (bitLen n - 1) ≤ n) := by
  unfold bitLen
  by_cases h : n = 0
  · subst h; simp
  · rw [if_neg h]
    have := (Nat.log2_eq_iff (k := Nat.log2 n) h).1 rfl
    exact ⟨this.2, .inr this.1⟩

theorem bitLen_shift {n k : Nat} (h : 2 ^ k ≤ n) : bitLen n = k + bitLen (n / 2 ^ k) := by
  obtain ⟨h1, h2⟩ := bitLen_spec (n / 2 ^ k)
  have hp := Nat.two_pow_pos k
  have h0 : 1 ≤ n / 2 ^ k := (Nat.le_div_iff_mul_le hp).2 (by omega)
  refine bitLen_of ?_ (.inr ?_)
  · rw [Nat.pow_add, Nat.mul_comm]
    exact (Nat.div_lt_iff_lt_mul hp).1 h1
  · rcases h2 with h2 | h2
    · rw [h2] at h1; omega
    · have hb : bitLen (n / 2 ^ k) ≠ 0 := fun e => by rw [e] at h1; omega
      rw [show k + bitLen (n / 2 ^ k) - 1 = (bitLen (n / 2 ^ k) - 1) + k by omega, Nat.pow_add]
      exact (Nat.le_div_iff_mul_le hp).1 h2

theorem tab_ok : ∀ n : Nat, n < 256 → rdI [0, 1, 2, 2, 3, 3, 3, 3, 4, 4, 4, 4, 4, 4, 4, 4, 5, 5, 5, 5, 5, 5, 5, 5, 5, 5, 5, 5, 5, 5, 5, 5, 6, 6, 6, 6, 6, 6, 6, 6, 6, 6, 6, 6, 6, 6, 6, 6, 6, 6, 6, 6, 6, 6, 6, 6, 6, 6, 6, 6, 6, 6, 6, 6, 7, 7, 7, 7, 7, 7, 7, 7, 7, 7, 7, 7, 7, 7, 7, 7, 7, 7, 7, 7, 7, 7, 7, 7, 7, 7, 7, 7, 7, 7, 7, 7, 7, 7, 7, 7, 7, 7, 7, 7, 7, 7, 7, 7, 7, 7, 7, 7, 7, 7, 7, 7, 7, 7, 7, 7, 7, 7, 7, 7, 7, 7, 7, 7, 8, 8, 8, 8, 8, 8, 8, 8, 8, 8, 8, 8, 8, 8, 8, 8, 8, 8, 8, 8, 8, 8, 8, 8, 8, 8, 8, 8, 8, 8, 8, 8, 8, 8, 8, 8, 8, 8, 8, 8, 8, 8, 8, 8, 8, 8, 8, 8, 8, 8, 8, 8, 8, 8, 8, 8, 8, 8, 8, 8, 8, 8, 8, 8, 8, 8, 8, 8, 8, 8, 8, 8, 8, 8, 8, 8, 8, 8, 8, 8, 8, 8, 8, 8, 8, 8, 8, 8, 8, 8, 8, 8, 8, 8, 8, 8, 8, 8, 8, 8, 8, 8, 8, 8, 8, 8, 8, 8, 8, 8, 8, 8, 8, 8, 8, 8, 8, 8, 8, 8, 8, 8, 8, 8, 8, 8, 8, 8] (n : Int) = some (bitLen n : Int) := by
  have h : ∀ n : Fin 256, rdI [0, 1, 2, 2, 3, 3, 3, 3, 4, 4, 4, 4, 4, 4, 4, 4, 5, 5, 5, 5, 5, 5, 5, 5, 5, 5, 5, 5, 5, 5, 5, 5, 6, 6, 6, 6, 6, 6, 6, 6, 6, 6, 6, 6, 6, 6, 6, 6, 6, 6, 6, 6, 6, 6, 6, 6, 6, 6, 6, 6, 6, 6, 6, 6, 7, 7, 7, 7, 7, 7, 7, 7, 7, 7, 7, 7, 7, 7, 7, 7, 7, 7, 7, 7, 7, 7, 7, 7, 7, 7, 7, 7, 7, 7, 7, 7, 7, 7, 7, 7, 7, 7, 7, 7, 7, 7, 7, 7, 7, 7, 7, 7, 7, 7, 7, 7, 7, 7, 7, 7, 7, 7, 7, 7, 7, 7, 7, 7, 8, 8, 8, 8, 8, 8, 8, 8, 8, 8, 8, 8, 8, 8, 8, 8, 8, 8, 8, 8, 8, 8, 8, 8, 8, 8, 8, 8, 8, 8, 8, 8, 8, 8, 8, 8, 8, 8, 8, 8, 8, 8, 8, 8, 8, 8, 8, 8, 8, 8, 8, 8, 8, 8, 8, 8, 8, 8, 8, 8, 8, 8, 8, 8, 8, 8, 8, 8, 8, 8, 8, 8, 8, 8, 8, 8, 8, 8, 8, 8, 8, 8, 8, 8, 8, 8, 8, 8, 8, 8, 8, 8, 8, 8, 8, 8, 8, 8, 8, 8, 8, 8, 8, 8, 8, 8, 8, 8, 8, 8, 8, 8, 8, 8, 8, 8, 8, 8, 8, 8, 8, 8, 8, 8, 8, 8, 8, 8] ((n.val : Nat) : Int) = some (bitLen n.val : Int) := by decide +kernel
  exact fun n hn => h ⟨n, hn⟩

theorem tabAt {n : Nat} (hn : n < 256) : rdI [0, 1, 2, 2, 3, 3, 3, 3, 4, 4, 4, 4, 4, 4, 4, 4, 5, 5, 5, 5, 5, 5, 5, 5, 5, 5, 5, 5, 5, 5, 5, 5, 6, 6, 6, 6, 6, 6, 6, 6, 6, 6, 6, 6, 6, 6, 6, 6, 6, 6, 6, 6, 6, 6, 6, 6, 6, 6, 6, 6, 6, 6, 6, 6, 7, 7, 7, 7, 7, 7, 7, 7, 7, 7, 7, 7, 7, 7, 7, 7, 7, 7, 7, 7, 7, 7, 7, 7, 7, 7, 7, 7, 7, 7, 7, 7, 7, 7, 7, 7, 7, 7, 7, 7, 7, 7, 7, 7, 7, 7, 7, 7, 7, 7, 7, 7, 7, 7, 7, 7, 7, 7, 7, 7, 7, 7, 7, 7, 8, 8, 8, 8, 8, 8, 8, 8, 8, 8, 8, 8, 8, 8, 8, 8, 8, 8, 8, 8, 8, 8, 8, 8, 8, 8, 8, 8, 8, 8, 8, 8, 8, 8, 8, 8, 8, 8, 8, 8, 8, 8, 8, 8, 8, 8, 8, 8, 8, 8, 8, 8, 8, 8, 8, 8, 8, 8, 8, 8, 8, 8, 8, 8, 8, 8, 8, 8, 8, 8, 8, 8, 8, 8, 8, 8, 8, 8, 8, 8, 8, 8, 8, 8, 8, 8, 8, 8, 8, 8, 8, 8, 8, 8, 8, 8, 8, 8, 8, 8, 8, 8, 8, 8, 8, 8, 8, 8, 8, 8, 8, 8, 8, 8, 8, 8, 8, 8, 8, 8, 8, 8, 8, 8, 8, 8, 8, 8] (IntKind.u8.wrap (n : Int)) = some (bitLen n : Int) := by
  rw [wrap_u8 (by omega) (by omega), tab_ok n hn]

theorem bitLen_le {n k : Nat} (h : n < 2 ^ k) : bitLen n ≤ k := by
  rcases (bitLen_spec n).2 with h2 | h2
  · omega
  · rcases Nat.lt_or_ge k (bitLen n) with h3 | h3
    · have := Nat.pow_le_pow_right (n := 2) (by omega) (show k ≤ bitLen n - 1 by omega)
      omega
    · exact h3

theorem wadd {a b : Nat} (h : a + b < 1000000000) : IntKind.i64.wrap ((a : Int) + (b : Int)) = ((a + b : Nat) : Int) := by
  rw [wrap_i64 (by omega) (by omega)]; omega
theorem wself {a : Nat} (h : a < 1000000000) : IntKind.i64.wrap (a : Int) = (a : Int) := wrap_i64 (by omega) (by omega)

theorem bits_Len64_ok {n : Nat} (h : n < 18446744073709551616) : bits_Len64 (n : Int) = some (((bitLen n : Int), ()), ()) := by
  have f32 : (n : Int).fdiv (2 ^ 32) = ((n / 4294967296 : Nat) : Int) := fdiv_pow n 32
  have l8 : ∀ m : Nat, m < 256 → bitLen m ≤ 8 := fun m hm => bitLen_le (by omega)
  have key : ∀ m : Nat, ∀ b : Nat, m < 4294967296 → b ≤ 32 →
      (bif (decide ((m : Int) ≥ 65536)) then
        (bif (decide ((m : Int).fdiv (2 ^ 16) ≥ 256)) then
          (rdI [0, 1, 2, 2, 3, 3, 3, 3, 4, 4, 4, 4, 4, 4, 4, 4, 5, 5, 5, 5, 5, 5, 5, 5, 5, 5, 5, 5, 5, 5, 5, 5, 6, 6, 6, 6, 6, 6, 6, 6, 6, 6, 6, 6, 6, 6, 6, 6, 6, 6, 6, 6, 6, 6, 6, 6, 6, 6, 6, 6, 6, 6, 6, 6, 7, 7, 7, 7, 7, 7, 7, 7, 7, 7, 7, 7, 7, 7, 7, 7, 7, 7, 7, 7, 7, 7, 7, 7, 7, 7, 7, 7, 7, 7, 7, 7, 7, 7, 7, 7, 7, 7, 7, 7, 7, 7, 7, 7, 7, 7, 7, 7, 7, 7, 7, 7, 7, 7, 7, 7, 7, 7, 7, 7, 7, 7, 7, 7, 8, 8, 8, 8, 8, 8, 8, 8, 8, 8, 8, 8, 8, 8, 8, 8, 8, 8, 8, 8, 8, 8, 8, 8, 8, 8, 8, 8, 8, 8, 8, 8, 8, 8, 8, 8, 8, 8, 8, 8, 8, 8, 8, 8, 8, 8, 8, 8, 8, 8, 8, 8, 8, 8, 8, 8, 8, 8, 8, 8, 8, 8, 8, 8, 8, 8, 8, 8, 8, 8, 8, 8, 8, 8, 8, 8, 8, 8, 8, 8, 8, 8, 8, 8, 8, 8, 8, 8, 8, 8, 8, 8, 8, 8, 8, 8, 8, 8, 8, 8, 8, 8, 8, 8, 8, 8, 8, 8, 8, 8, 8, 8, 8, 8, 8, 8, 8, 8, 8, 8, 8, 8, 8, 8, 8, 8, 8, 8] (IntKind.u8.wrap (((m : Int).fdiv (2 ^ 16)).fdiv (2 ^ 8)))).bind fun v => some (((IntKind.i64.wrap ((IntKind.i64.wrap ((IntKind.i64.wrap ((b : Int) + 16)) + 8)) + (IntKind.i64.wrap v))), ()), ())
        else (rdI [0, 1, 2, 2, 3, 3, 3, 3, 4, 4, 4, 4, 4, 4, 4, 4, 5, 5, 5, 5, 5, 5, 5, 5, 5, 5, 5, 5, 5, 5, 5, 5, 6, 6, 6, 6, 6, 6, 6, 6, 6, 6, 6, 6, 6, 6, 6, 6, 6, 6, 6, 6, 6, 6, 6, 6, 6, 6, 6, 6, 6, 6, 6, 6, 7, 7, 7, 7, 7, 7, 7, 7, 7, 7, 7, 7, 7, 7, 7, 7, 7, 7, 7, 7, 7, 7, 7, 7, 7, 7, 7, 7, 7, 7, 7, 7, 7, 7, 7, 7, 7, 7, 7, 7, 7, 7, 7, 7, 7, 7, 7, 7, 7, 7, 7, 7, 7, 7, 7, 7, 7, 7, 7, 7, 7, 7, 7, 7, 8, 8, 8, 8, 8, 8, 8, 8, 8, 8, 8, 8, 8, 8, 8, 8, 8, 8, 8, 8, 8, 8, 8, 8, 8, 8, 8, 8, 8, 8, 8, 8, 8, 8, 8, 8, 8, 8, 8, 8, 8, 8, 8, 8, 8, 8, 8, 8, 8, 8, 8, 8, 8, 8, 8, 8, 8, 8, 8, 8, 8, 8, 8, 8, 8, 8, 8, 8, 8, 8, 8, 8, 8, 8, 8, 8, 8, 8, 8, 8, 8, 8, 8, 8, 8, 8, 8, 8, 8, 8, 8, 8, 8, 8, 8, 8, 8, 8, 8, 8, 8, 8, 8, 8, 8, 8, 8, 8, 8, 8, 8, 8, 8, 8, 8, 8, 8, 8, 8, 8, 8, 8, 8, 8, 8, 8, 8, 8] (IntKind.u8.wrap ((m : Int).fdiv (2 ^ 16)))).bind fun v => some (((IntKind.i64.wrap ((IntKind.i64.wrap ((b : Int) + 16)) + (IntKind.i64.wrap v))), ()), ()))
      else (bif (decide ((m : Int) ≥ 256)) then
          (rdI [0, 1, 2, 2, 3, 3, 3, 3, 4, 4, 4, 4, 4, 4, 4, 4, 5, 5, 5, 5, 5, 5, 5, 5, 5, 5, 5, 5, 5, 5, 5, 5, 6, 6, 6, 6, 6, 6, 6, 6, 6, 6, 6, 6, 6, 6, 6, 6, 6, 6, 6, 6, 6, 6, 6, 6, 6, 6, 6, 6, 6, 6, 6, 6, 7, 7, 7, 7, 7, 7, 7, 7, 7, 7, 7, 7, 7, 7, 7, 7, 7, 7, 7, 7, 7, 7, 7, 7, 7, 7, 7, 7, 7, 7, 7, 7, 7, 7, 7, 7, 7, 7, 7, 7, 7, 7, 7, 7, 7, 7, 7, 7, 7, 7, 7, 7, 7, 7, 7, 7, 7, 7, 7, 7, 7, 7, 7, 7, 8, 8, 8, 8, 8, 8, 8, 8, 8, 8, 8, 8, 8, 8, 8, 8, 8, 8, 8, 8, 8, 8, 8, 8, 8, 8, 8, 8, 8, 8, 8, 8, 8, 8, 8, 8, 8, 8, 8, 8, 8, 8, 8, 8, 8, 8, 8, 8, 8, 8, 8, 8, 8, 8, 8, 8, 8, 8, 8, 8, 8, 8, 8, 8, 8, 8, 8, 8, 8, 8, 8, 8, 8, 8, 8, 8, 8, 8, 8, 8, 8, 8, 8, 8, 8, 8, 8, 8, 8, 8, 8, 8, 8, 8, 8, 8, 8, 8, 8, 8, 8, 8, 8, 8, 8, 8, 8, 8, 8, 8, 8, 8, 8, 8, 8, 8, 8, 8, 8, 8, 8, 8, 8, 8, 8, 8, 8, 8] (IntKind.u8.wrap ((m : Int).fdiv (2 ^ 8)))).bind fun v => some (((IntKind.i64.wrap ((IntKind.i64.wrap ((b : Int) + 8)) + (IntKind.i64.wrap v))), ()), ())
        else (rdI [0, 1, 2, 2, 3, 3, 3, 3, 4, 4, 4, 4, 4, 4, 4, 4, 5, 5, 5, 5, 5, 5, 5, 5, 5, 5, 5, 5, 5, 5, 5, 5, 6, 6, 6, 6, 6, 6, 6, 6, 6, 6, 6, 6, 6, 6, 6, 6, 6, 6, 6, 6, 6, 6, 6, 6, 6, 6, 6, 6, 6, 6, 6, 6, 7, 7, 7, 7, 7, 7, 7, 7, 7, 7, 7, 7, 7, 7, 7, 7, 7, 7, 7, 7, 7, 7, 7, 7, 7, 7, 7, 7, 7, 7, 7, 7, 7, 7, 7, 7, 7, 7, 7, 7, 7, 7, 7, 7, 7, 7, 7, 7, 7, 7, 7, 7, 7, 7, 7, 7, 7, 7, 7, 7, 7, 7, 7, 7, 8, 8, 8, 8, 8, 8, 8, 8, 8, 8, 8, 8, 8, 8, 8, 8, 8, 8, 8, 8, 8, 8, 8, 8, 8, 8, 8, 8, 8, 8, 8, 8, 8, 8, 8, 8, 8, 8, 8, 8, 8, 8, 8, 8, 8, 8, 8, 8, 8, 8, 8, 8, 8, 8, 8, 8, 8, 8, 8, 8, 8, 8, 8, 8, 8, 8, 8, 8, 8, 8, 8, 8, 8, 8, 8, 8, 8, 8, 8, 8, 8, 8, 8, 8, 8, 8, 8, 8, 8, 8, 8, 8, 8, 8, 8, 8, 8, 8, 8, 8, 8, 8, 8, 8, 8, 8, 8, 8, 8, 8, 8, 8, 8, 8, 8, 8, 8, 8, 8, 8, 8, 8, 8, 8, 8, 8, 8, 8] (IntKind.u8.wrap (m : Int))).bind fun v => some (((IntKind.i64.wrap ((b : Int) + (IntKind.i64.wrap v))), ()), ())) : Option ((Int × Unit) × Unit)) = some ((((b + bitLen m : Nat) : Int), ()), ()) := by
    intro m b hm hb
    have g16 : (m : Int).fdiv (2 ^ 16) = ((m / 65536 : Nat) : Int) := fdiv_pow m 16
    have g8 : (m : Int).fdiv (2 ^ 8) = ((m / 256 : Nat) : Int) := fdiv_pow m 8
    have g24 : ((m / 65536 : Nat) : Int).fdiv (2 ^ 8) = ((m / 65536 / 256 : Nat) : Int) := fdiv_pow _ 8
    rw [g16, g8, g24]
    have w16 : IntKind.i64.wrap ((b : Int) + 16) = ((b + 16 : Nat) : Int) := wadd (b := 16) (by omega)
    have w8 : IntKind.i64.wrap ((b : Int) + 8) = ((b + 8 : Nat) : Int) := wadd (b := 8) (by omega)
    have w24 : IntKind.i64.wrap (((b + 16 : Nat) : Int) + 8) = ((b + 16 + 8 : Nat) : Int) := wadd (b := 8) (by omega)
    rw [w16, w8, w24]
    by_cases h16 : 65536 ≤ m
    · rw [decide_eq_true (show (m : Int) ≥ 65536 by omega), cond_true]
      have s16 := bitLen_shift (n := m) (k := 16) h16
      rw [show (2 : Nat) ^ 16 = 65536 from rfl] at s16
      by_cases h8 : 256 ≤ m / 65536
      · have s8 := bitLen_shift (n := m / 65536) (k := 8) h8
        rw [show (2 : Nat) ^ 8 = 256 from rfl] at s8
        have := l8 (m / 65536 / 256) (by omega)
        rw [decide_eq_true (show ((m / 65536 : Nat) : Int) ≥ 256 by omega), cond_true, tabAt (by omega), Option.bind_some, wself (by omega), wadd (by omega), s16, s8]
        congr 4
        omega
      · have := l8 (m / 65536) (by omega)
        rw [decide_eq_false (show ¬ ((m / 65536 : Nat) : Int) ≥ 256 by omega), cond_false, tabAt (by omega), Option.bind_some, wself (by omega), wadd (by omega), s16]
        congr 4
        omega
    · rw [decide_eq_false (show ¬ (m : Int) ≥ 65536 by omega), cond_false]
      by_cases h8 : 256 ≤ m
      · have s8 := bitLen_shift (n := m) (k := 8) h8
        rw [show (2 : Nat) ^ 8 = 256 from rfl] at s8
        have := l8 (m / 256) (by omega)
        rw [decide_eq_true (show (m : Int) ≥ 256 by omega), cond_true, tabAt (by omega), Option.bind_some, wself (by omega), wadd (by omega), s8]
        congr 4
        omega
      · have := l8 m (by omega)
        rw [decide_eq_false (show ¬ (m : Int) ≥ 256 by omega), cond_false, tabAt (by omega), Option.bind_some, wself (by omega), wadd (by omega)]
  unfold bits_Len64
  by_cases hb : 4294967296 ≤ n
  · rw [decide_eq_true (show (n : Int) ≥ 4294967296 by omega), cond_true, f32]
    have := key (n / 4294967296) 32 (by omega) (by omega)
    have s32 := bitLen_shift (n := n) (k := 32) hb
    rw [show (2 : Nat) ^ 32 = 4294967296 from rfl] at s32
    rw [s32]
    exact this
  · rw [decide_eq_false (show ¬ (n : Int) ≥ 4294967296 by omega), cond_false]
    have := key n 0 (by omega) (by omega)
    rw [Nat.zero_add] at this
    exact this

end Go.L

namespace Go.L
open Go Go.Pv
set_option maxRecDepth 100000

theorem rem_wrap {u c y : Nat} (hy : 0 < y) (hy2 : y < 18446744073709551616) :
    IntKind.u64.wrap ((IntKind.u64.wrap ((IntKind.u64.wrap ((u : Int) * 4294967296)) + (c : Int))) - (IntKind.u64.wrap ((((u * 4294967296 + c) / y : Nat) : Int) * (y : Int)))) = (((u * 4294967296 + c) % y : Nat) : Int) := by
  have h1 := Nat.div_add_mod (u * 4294967296 + c) y
  have h2 := Nat.mod_lt (u * 4294967296 + c) hy
  have e : (((u * 4294967296 + c) / y : Nat) : Int) * (y : Int) = ((y * ((u * 4294967296 + c) / y) : Nat) : Int) := by rw [Nat.mul_comm y, Int.natCast_mul]
  rw [e, wrapu, wrapu, wrapu, wrapu]
  generalize y * ((u * 4294967296 + c) / y) = p at *
  generalize (u * 4294967296 + c) % y = r at *
  omega

theorem digit_lt {u c y : Nat} (hu : u < y) (hc : c < 4294967296) : (u * 4294967296 + c) / y < 4294967296 :=
  (Nat.div_lt_iff_lt_mul (by omega)).2 (by omega)

/-- the invariant of the search for a digit -/
structure Dig (u c y1 y0 q rh : Nat) : Prop where
  hc : c < 4294967296
  hy1 : 2147483648 ≤ y1
  hy1' : y1 < 4294967296
  hy0 : y0 < 4294967296
  hu : u < y1 * 4294967296 + y0
  hq : q ≤ 4294967297
  hI : q * y1 + rh = u
  hr : rh < 4294967296
  hQ : (u * 4294967296 + c) / (y1 * 4294967296 + y0) ≤ q

theorem Dig.init {u c y1 y0 : Nat} (hc : c < 4294967296) (hy1 : 2147483648 ≤ y1) (hy1' : y1 < 4294967296) (hy0 : y0 < 4294967296) (hu : u < y1 * 4294967296 + y0) : Dig u c y1 y0 (u / y1) (u % y1) := by
  have hm := Nat.mod_lt u (show 0 < y1 by omega)
  refine ⟨hc, hy1, hy1', hy0, hu, ?_, by rw [Nat.mul_comm]; exact Nat.div_add_mod u y1, by omega, ?_⟩
  · have : u / y1 < 4294967298 := (Nat.div_lt_iff_lt_mul (by omega)).2 (by omega)
    omega
  · have hy : 0 < y1 * 4294967296 + y0 := by omega
    refine (Nat.le_div_iff_mul_le (by omega)).2 ?_
    have h1 := Nat.div_mul_le_self (u * 4294967296 + c) (y1 * 4294967296 + y0)
    generalize (u * 4294967296 + c) / (y1 * 4294967296 + y0) = Q at *
    rw [Nat.mul_add, ← Nat.mul_assoc] at h1
    omega

theorem div64_s2_ok {s y1 y0 un0 q1 un21 : Nat} (hs : s ≤ 64) (hq1 : q1 < 4294967296) : ∀ {q rh : Nat}, Dig un21 un0 y1 y0 q rh →
    loopR (fun (z : (Int × Int × Int × Int × Int × Int × Int × Int × Int × Unit) × (Unit)) => bits_Div64_s2 z.1.1 z.1.2.1 z.1.2.2.1 z.1.2.2.2.1 z.1.2.2.2.2.1 z.1.2.2.2.2.2.1 z.1.2.2.2.2.2.2.1 z.1.2.2.2.2.2.2.2.1 z.1.2.2.2.2.2.2.2.2.1)
      ((((y1 * 4294967296 + y0 : Nat) : Int), (s : Int), (y1 : Int), (y0 : Int), (un0 : Int), (q1 : Int), (rh : Int), (un21 : Int), (q : Int), ()), ()) =
    some ((((q1 * 4294967296 + (un21 * 4294967296 + un0) / (y1 * 4294967296 + y0) : Nat) : Int), (((un21 * 4294967296 + un0) % (y1 * 4294967296 + y0) / 2 ^ s : Nat) : Int), ()), ()) := by
  intro q rh hD
  refine loop_meas (fun z => ∃ q rh, Dig un21 un0 y1 y0 q rh ∧ z = ((((y1 * 4294967296 + y0 : Nat) : Int), (s : Int), (y1 : Int), (y0 : Int), (un0 : Int), (q1 : Int), (rh : Int), (un21 : Int), (q : Int), ()), ())) (fun z => z.1.2.2.2.2.2.2.2.2.1.toNat) ?_ ⟨q, rh, hD, rfl⟩
  rintro _ ⟨q, rh, hD, rfl⟩
  obtain ⟨k1, k2⟩ := knuth hD.hc hD.hy1 hD.hy0 hD.hu hD.hq hD.hI hD.hQ
  have hQ := digit_lt hD.hu hD.hc
  have hy : 0 < y1 * 4294967296 + y0 := by have := hD.hy1; omega
  have hy2 : y1 * 4294967296 + y0 < 18446744073709551616 := by have := hD.hy1'; have := hD.hy0; omega
  have hy1 := hD.hy1; have hy1' := hD.hy1'; have hy0 := hD.hy0; have hc := hD.hc; have hrh := hD.hr; have hqm := hD.hq
  -- the way out
  have hout : ∀ q', q' = (un21 * 4294967296 + un0) / (y1 * 4294967296 + y0) → (shrI .u64 (IntKind.u64.wrap ((IntKind.u64.wrap ((IntKind.u64.wrap ((un21 : Int) * 4294967296)) + (un0 : Int))) - (IntKind.u64.wrap ((q' : Int) * ((y1 * 4294967296 + y0 : Nat) : Int))))) (s : Int)).bind (fun v_52 =>
      some (((IntKind.u64.wrap ((IntKind.u64.wrap ((q1 : Int) * 4294967296)) + (q' : Int))), v_52, ()), ())) =
      some ((((q1 * 4294967296 + (un21 * 4294967296 + un0) / (y1 * 4294967296 + y0) : Nat) : Int), (((un21 * 4294967296 + un0) % (y1 * 4294967296 + y0) / 2 ^ s : Nat) : Int), ()), ()) := by
    rintro _ rfl
    rw [rem_wrap hy hy2, shr_ok, Option.bind_some, Nat.min_eq_left hs, wrapu, wrapu]
    refine congrArg some (Prod.ext (Prod.ext ?_ rfl) rfl)
    dsimp only
    generalize (un21 * 4294967296 + un0) / (y1 * 4294967296 + y0) = Q at *
    omega
  simp only
  unfold bits_Div64_s2
  simp only [gsome]
  by_cases hq : 4294967296 ≤ q
  · rw [decide_eq_true (show (q : Int) ≥ 4294967296 by omega), cond_true, cond_true]
    obtain ⟨p1, p2, p3, p4⟩ := k2 (.inl hq)
    have e1 : IntKind.u64.wrap ((q : Int) - 1) = ((q - 1 : Nat) : Int) := by rw [wrapu]; omega
    have e2 : IntKind.u64.wrap ((rh : Int) + (y1 : Int)) = ((rh + y1 : Nat) : Int) := by rw [wrapu]; omega
    rw [e1, e2]
    by_cases hr : 4294967296 ≤ rh + y1
    · left
      rw [decide_eq_true (show ((rh + y1 : Nat) : Int) ≥ 4294967296 by omega), cond_true, hout _ (p4 hr)]
      rfl
    · right
      rw [decide_eq_false (show ¬ ((rh + y1 : Nat) : Int) ≥ 4294967296 by omega), cond_false]
      refine ⟨_, rfl, ⟨q - 1, rh + y1, ⟨hD.hc, hD.hy1, hD.hy1', hD.hy0, hD.hu, by omega, p3, by omega, p2⟩, rfl⟩, ?_⟩
      simp only
      omega
  · rw [decide_eq_false (show ¬ (q : Int) ≥ 4294967296 by omega)]
    simp only [Bool.not_false, cond_true, cond_false]
    have hm1 : q * y0 ≤ 4294967295 * 4294967295 := Nat.mul_le_mul (by omega) (by omega)
    have e3 : IntKind.u64.wrap ((q : Int) * (y0 : Int)) = ((q * y0 : Nat) : Int) := by
      rw [show (q : Int) * (y0 : Int) = ((q * y0 : Nat) : Int) by simp, wu64 (by omega)]
    have e4 : IntKind.u64.wrap (4294967296 * (rh : Int)) = ((4294967296 * rh : Nat) : Int) := by
      rw [show 4294967296 * (rh : Int) = ((4294967296 * rh : Nat) : Int) by simp, wu64 (by omega)]
    have e5 : IntKind.u64.wrap (((4294967296 * rh : Nat) : Int) + (un0 : Int)) = ((4294967296 * rh + un0 : Nat) : Int) := by
      rw [show ((4294967296 * rh : Nat) : Int) + (un0 : Int) = ((4294967296 * rh + un0 : Nat) : Int) by simp, wu64 (by omega)]
    rw [e3, e4, e5]
    by_cases hc2 : 4294967296 * rh + un0 < q * y0
    · rw [decide_eq_true (show ((q * y0 : Nat) : Int) > ((4294967296 * rh + un0 : Nat) : Int) by omega), cond_true]
      obtain ⟨p1, p2, p3, p4⟩ := k2 (.inr hc2)
      have e1 : IntKind.u64.wrap ((q : Int) - 1) = ((q - 1 : Nat) : Int) := by rw [wrapu]; omega
      have e2 : IntKind.u64.wrap ((rh : Int) + (y1 : Int)) = ((rh + y1 : Nat) : Int) := by rw [wrapu]; omega
      rw [e1, e2]
      by_cases hr : 4294967296 ≤ rh + y1
      · left
        rw [decide_eq_true (show ((rh + y1 : Nat) : Int) ≥ 4294967296 by omega), cond_true, hout _ (p4 hr)]
        rfl
      · right
        rw [decide_eq_false (show ¬ ((rh + y1 : Nat) : Int) ≥ 4294967296 by omega), cond_false]
        refine ⟨_, rfl, ⟨q - 1, rh + y1, ⟨hD.hc, hD.hy1, hD.hy1', hD.hy0, hD.hu, by omega, p3, by omega, p2⟩, rfl⟩, ?_⟩
        simp only
        omega
    · left
      rw [decide_eq_false (show ¬ ((q * y0 : Nat) : Int) > ((4294967296 * rh + un0 : Nat) : Int) by omega), cond_false, hout q (k1 ⟨by omega, by omega⟩)]
      rfl

theorem div64_mid {s y1 y0 un0 v q' : Nat} (hs : s ≤ 64) (h0 : un0 < 4294967296) (hy1 : 2147483648 ≤ y1) (hy1' : y1 < 4294967296) (hy0 : y0 < 4294967296) (hm : v < y1 * 4294967296 + y0) (hQ : q' < 4294967296) :
    ((quoI .u64 (v : Int) (y1 : Int)).bind fun v_34 =>
      loopR (fun (z : (Int × Int × Int × Int × Int × Int × Int × Int × Int × Unit) × (Unit)) => bits_Div64_s2 z.1.1 z.1.2.1 z.1.2.2.1 z.1.2.2.2.1 z.1.2.2.2.2.1 z.1.2.2.2.2.2.1 z.1.2.2.2.2.2.2.1 z.1.2.2.2.2.2.2.2.1 z.1.2.2.2.2.2.2.2.2.1) ((((y1 * 4294967296 + y0 : Nat) : Int), (s : Int), (y1 : Int), (y0 : Int), (un0 : Int), (q' : Int),
        (IntKind.u64.wrap ((v : Int) - (IntKind.u64.wrap (v_34 * (y1 : Int))))), (v : Int), v_34, ()), ())) =
    some ((((q' * 4294967296 + (v * 4294967296 + un0) / (y1 * 4294967296 + y0) : Nat) : Int), (((v * 4294967296 + un0) % (y1 * 4294967296 + y0) / 2 ^ s : Nat) : Int), ()), ()) := by
  have e1 : quoI .u64 (v : Int) (y1 : Int) = some ((v / y1 : Nat) : Int) := by
    unfold quoI
    rw [if_neg (by omega), Int.tdiv_eq_ediv_of_nonneg (by omega)]
    have : ((v : Int) / (y1 : Int)) = ((v / y1 : Nat) : Int) := by simp
    rw [this, wu64]
    exact Nat.lt_of_le_of_lt (Nat.div_le_self _ _) (by omega)
  have e2 : IntKind.u64.wrap ((v : Int) - IntKind.u64.wrap (((v / y1 : Nat) : Int) * (y1 : Int))) = ((v % y1 : Nat) : Int) := by
    have h1 := Nat.div_add_mod v y1
    have h2 := Nat.mod_lt v (show 0 < y1 by omega)
    rw [show ((v / y1 : Nat) : Int) * (y1 : Int) = ((y1 * (v / y1) : Nat) : Int) by rw [Nat.mul_comm y1, Int.natCast_mul], wrapu, wrapu]
    generalize y1 * (v / y1) = p at *
    generalize v % y1 = r at *
    omega
  rw [e1, Option.bind_some, e2]
  exact div64_s2_ok hs hQ (Dig.init h0 hy1 hy1' hy0 hm)

theorem div64_s0_ok {s y1 y0 un32 un1 un0 : Nat} (hs : s ≤ 64) (h0 : un0 < 4294967296) : ∀ {q rh : Nat}, Dig un32 un1 y1 y0 q rh →
    loopR (fun (z : (Int × Int × Int × Int × Int × Int × Int × Int × Int × Unit) × (Unit)) => bits_Div64_s0 z.1.1 z.1.2.1 z.1.2.2.1 z.1.2.2.2.1 z.1.2.2.2.2.1 z.1.2.2.2.2.2.1 z.1.2.2.2.2.2.2.1 z.1.2.2.2.2.2.2.2.1 z.1.2.2.2.2.2.2.2.2.1)
      ((((y1 * 4294967296 + y0 : Nat) : Int), (s : Int), (y1 : Int), (y0 : Int), (un32 : Int), (un1 : Int), (un0 : Int), (q : Int), (rh : Int), ()), ()) =
    some ((((((un32 * 4294967296 + un1) / (y1 * 4294967296 + y0)) * 4294967296 + ((un32 * 4294967296 + un1) % (y1 * 4294967296 + y0) * 4294967296 + un0) / (y1 * 4294967296 + y0) : Nat) : Int), ((((un32 * 4294967296 + un1) % (y1 * 4294967296 + y0) * 4294967296 + un0) % (y1 * 4294967296 + y0) / 2 ^ s : Nat) : Int), ()), ()) := by
  intro q rh hD
  refine loop_meas (fun z => ∃ q rh, Dig un32 un1 y1 y0 q rh ∧ z = ((((y1 * 4294967296 + y0 : Nat) : Int), (s : Int), (y1 : Int), (y0 : Int), (un32 : Int), (un1 : Int), (un0 : Int), (q : Int), (rh : Int), ()), ())) (fun z => z.1.2.2.2.2.2.2.2.1.toNat) ?_ ⟨q, rh, hD, rfl⟩
  rintro _ ⟨q, rh, hD, rfl⟩
  obtain ⟨k1, k2⟩ := knuth hD.hc hD.hy1 hD.hy0 hD.hu hD.hq hD.hI hD.hQ
  have hQ := digit_lt hD.hu hD.hc
  have hy : 0 < y1 * 4294967296 + y0 := by have := hD.hy1; omega
  have hy2 : y1 * 4294967296 + y0 < 18446744073709551616 := by have := hD.hy1'; have := hD.hy0; omega
  have hy1 := hD.hy1; have hy1' := hD.hy1'; have hy0 := hD.hy0; have hc := hD.hc; have hrh := hD.hr; have hqm := hD.hq
  have hm := Nat.mod_lt (un32 * 4294967296 + un1) hy
  have hout : ∀ q', q' = (un32 * 4294967296 + un1) / (y1 * 4294967296 + y0) →
      ((quoI .u64 (IntKind.u64.wrap ((IntKind.u64.wrap ((IntKind.u64.wrap ((un32 : Int) * 4294967296)) + (un1 : Int))) - (IntKind.u64.wrap ((q' : Int) * ((y1 * 4294967296 + y0 : Nat) : Int))))) (y1 : Int)).bind fun v_34 =>
      loopR (fun (z : (Int × Int × Int × Int × Int × Int × Int × Int × Int × Unit) × (Unit)) => bits_Div64_s2 z.1.1 z.1.2.1 z.1.2.2.1 z.1.2.2.2.1 z.1.2.2.2.2.1 z.1.2.2.2.2.2.1 z.1.2.2.2.2.2.2.1 z.1.2.2.2.2.2.2.2.1 z.1.2.2.2.2.2.2.2.2.1) ((((y1 * 4294967296 + y0 : Nat) : Int), (s : Int), (y1 : Int), (y0 : Int), (un0 : Int), (q' : Int),
        (IntKind.u64.wrap ((IntKind.u64.wrap ((IntKind.u64.wrap ((IntKind.u64.wrap ((un32 : Int) * 4294967296)) + (un1 : Int))) - (IntKind.u64.wrap ((q' : Int) * ((y1 * 4294967296 + y0 : Nat) : Int))))) - (IntKind.u64.wrap (v_34 * (y1 : Int))))),
        (IntKind.u64.wrap ((IntKind.u64.wrap ((IntKind.u64.wrap ((un32 : Int) * 4294967296)) + (un1 : Int))) - (IntKind.u64.wrap ((q' : Int) * ((y1 * 4294967296 + y0 : Nat) : Int))))), v_34, ()), ())) =
    some ((((((un32 * 4294967296 + un1) / (y1 * 4294967296 + y0)) * 4294967296 + ((un32 * 4294967296 + un1) % (y1 * 4294967296 + y0) * 4294967296 + un0) / (y1 * 4294967296 + y0) : Nat) : Int), ((((un32 * 4294967296 + un1) % (y1 * 4294967296 + y0) * 4294967296 + un0) % (y1 * 4294967296 + y0) / 2 ^ s : Nat) : Int), ()), ()) := by
    rintro _ rfl
    rw [rem_wrap hy hy2]
    exact div64_mid hs h0 hy1 hy1' hy0 hm hQ
  simp only
  unfold bits_Div64_s0
  simp only [gsome]
  by_cases hq : 4294967296 ≤ q
  · rw [decide_eq_true (show (q : Int) ≥ 4294967296 by omega), cond_true, cond_true]
    obtain ⟨p1, p2, p3, p4⟩ := k2 (.inl hq)
    have e1 : IntKind.u64.wrap ((q : Int) - 1) = ((q - 1 : Nat) : Int) := by rw [wrapu]; omega
    have e2 : IntKind.u64.wrap ((rh : Int) + (y1 : Int)) = ((rh + y1 : Nat) : Int) := by rw [wrapu]; omega
    rw [e1, e2]
    by_cases hr : 4294967296 ≤ rh + y1
    · left
      rw [decide_eq_true (show ((rh + y1 : Nat) : Int) ≥ 4294967296 by omega), cond_true, hout _ (p4 hr)]
      rfl
    · right
      rw [decide_eq_false (show ¬ ((rh + y1 : Nat) : Int) ≥ 4294967296 by omega), cond_false]
      refine ⟨_, rfl, ⟨q - 1, rh + y1, ⟨hD.hc, hD.hy1, hD.hy1', hD.hy0, hD.hu, by omega, p3, by omega, p2⟩, rfl⟩, ?_⟩
      simp only
      omega
  · rw [decide_eq_false (show ¬ (q : Int) ≥ 4294967296 by omega)]
    simp only [Bool.not_false, cond_true, cond_false]
    have hm1 : q * y0 ≤ 4294967295 * 4294967295 := Nat.mul_le_mul (by omega) (by omega)
    have e3 : IntKind.u64.wrap ((q : Int) * (y0 : Int)) = ((q * y0 : Nat) : Int) := by
      rw [show (q : Int) * (y0 : Int) = ((q * y0 : Nat) : Int) by simp, wu64 (by omega)]
    have e4 : IntKind.u64.wrap (4294967296 * (rh : Int)) = ((4294967296 * rh : Nat) : Int) := by
      rw [show 4294967296 * (rh : Int) = ((4294967296 * rh : Nat) : Int) by simp, wu64 (by omega)]
    have e5 : IntKind.u64.wrap (((4294967296 * rh : Nat) : Int) + (un1 : Int)) = ((4294967296 * rh + un1 : Nat) : Int) := by
      rw [show ((4294967296 * rh : Nat) : Int) + (un1 : Int) = ((4294967296 * rh + un1 : Nat) : Int) by simp, wu64 (by omega)]
    rw [e3, e4, e5]
    by_cases hc2 : 4294967296 * rh + un1 < q * y0
    · rw [decide_eq_true (show ((q * y0 : Nat) : Int) > ((4294967296 * rh + un1 : Nat) : Int) by omega), cond_true]
      obtain ⟨p1, p2, p3, p4⟩ := k2 (.inr hc2)
      have e1 : IntKind.u64.wrap ((q : Int) - 1) = ((q - 1 : Nat) : Int) := by rw [wrapu]; omega
      have e2 : IntKind.u64.wrap ((rh : Int) + (y1 : Int)) = ((rh + y1 : Nat) : Int) := by rw [wrapu]; omega
      rw [e1, e2]
      by_cases hr : 4294967296 ≤ rh + y1
      · left
        rw [decide_eq_true (show ((rh + y1 : Nat) : Int) ≥ 4294967296 by omega), cond_true, hout _ (p4 hr)]
        rfl
      · right
        rw [decide_eq_false (show ¬ ((rh + y1 : Nat) : Int) ≥ 4294967296 by omega), cond_false]
        refine ⟨_, rfl, ⟨q - 1, rh + y1, ⟨hD.hc, hD.hy1, hD.hy1', hD.hy0, hD.hu, by omega, p3, by omega, p2⟩, rfl⟩, ?_⟩
        simp only
        omega
    · left
      rw [decide_eq_false (show ¬ ((q * y0 : Nat) : Int) > ((4294967296 * rh + un1 : Nat) : Int) by omega), cond_false, hout q (k1 ⟨by omega, by omega⟩)]
      rfl

theorem or_add {a b s : Nat} (h : a % 2 ^ s = 0) (hb : b < 2 ^ s) (hab : a + b < 18446744073709551616) : bitsI .or .u64 (a : Int) (b : Int) = ((a + b : Nat) : Int) := by
  have key : (BitVec.ofInt 64 (a : Int) ||| BitVec.ofInt 64 (b : Int)).toNat = a + b := by
    rw [BitVec.toNat_or, BitVec.ofInt_natCast, BitVec.ofInt_natCast, BitVec.toNat_ofNat, BitVec.toNat_ofNat, Nat.mod_eq_of_lt (show a < 2 ^ 64 by omega), Nat.mod_eq_of_lt (show b < 2 ^ 64 by omega)]
    have := Nat.shiftLeft_add_eq_or_of_lt hb (a / 2 ^ s)
    rw [Nat.shiftLeft_eq, Nat.div_mul_cancel (Nat.dvd_of_mod_eq_zero h)] at this
    exact this.symm
  show IntKind.u64.wrap (((BitVec.ofInt 64 (a : Int) ||| BitVec.ofInt 64 (b : Int)).toNat : Nat) : Int) = _
  rw [key, wu64 hab]

/-- the long division of what was moved, and back -/
theorem div_moved {U y s Q0 Q1 u32 u21 R un1 un0 : Nat} (hy : 0 < y) (h1 : U * 2 ^ s = u32 * 18446744073709551616 + (un1 * 4294967296 + un0)) (h2 : y * 2 ^ s * Q1 + u21 = u32 * 4294967296 + un1) (h3 : y * 2 ^ s * Q0 + R = u21 * 4294967296 + un0) (h4 : R < y * 2 ^ s) :
    Q1 * 4294967296 + Q0 = U / y ∧ R / 2 ^ s = U % y := by
  have hp := Nat.two_pow_pos s
  have e : U * 2 ^ s = (Q1 * 4294967296 + Q0) * y * 2 ^ s + R := by
    have : (Q1 * 4294967296 + Q0) * y * 2 ^ s = y * 2 ^ s * Q1 * 4294967296 + y * 2 ^ s * Q0 := by
      rw [Nat.mul_assoc, Nat.add_mul, Nat.mul_comm Q0, Nat.mul_comm (Q1 * 4294967296), ← Nat.mul_assoc]
    rw [this, h1]
    generalize y * 2 ^ s * Q1 = p at *
    generalize y * 2 ^ s * Q0 = q at *
    omega
  obtain ⟨Q, hQ⟩ : ∃ Q, Q1 * 4294967296 + Q0 = Q := ⟨_, rfl⟩
  rw [hQ] at e ⊢
  have hle : Q * y ≤ U := by
    rcases Nat.lt_or_ge U (Q * y) with h | h
    · have := Nat.mul_lt_mul_of_pos_right h hp
      omega
    · exact h
  have hR : R = (U - Q * y) * 2 ^ s := by rw [Nat.sub_mul]; omega
  have hlt : U - Q * y < y := by
    rw [hR] at h4
    exact Nat.lt_of_mul_lt_mul_right h4
  have := (Nat.div_mod_unique (a := U) (c := U - Q * y) (d := Q) hy).2 ⟨by rw [Nat.mul_comm y Q]; omega, hlt⟩
  rw [hR, Nat.mul_div_cancel _ hp]
  exact ⟨this.1.symm, this.2.symm⟩

theorem bits_Div64_ok {hi lo y : Nat} (hlo : lo < 18446744073709551616) (hy : y < 18446744073709551616) (h : hi < y) :
    bits_Div64 (hi : Int) (lo : Int) (y : Int) = some (((((hi * 18446744073709551616 + lo) / y : Nat) : Int), (((hi * 18446744073709551616 + lo) % y : Nat) : Int), ()), ()) := by
  unfold bits_Div64
  rw [decide_eq_false (show ¬ (y : Int) = 0 by omega), cond_false, decide_eq_false (show ¬ (y : Int) ≤ hi by omega), cond_false]
  by_cases h0 : hi = 0
  · subst h0
    rw [decide_eq_true (show ((0 : Nat) : Int) = 0 from rfl), cond_true, Nat.zero_mul, Nat.zero_add]
    unfold quoI remI
    rw [if_neg (by omega), if_neg (by omega), Option.bind_some, Option.bind_some, Int.tdiv_eq_ediv_of_nonneg (by omega), Int.tmod_eq_emod_of_nonneg (by omega)]
    rw [show ((lo : Int) / (y : Int)) = ((lo / y : Nat) : Int) by simp, show ((lo : Int) % (y : Int)) = ((lo % y : Nat) : Int) by simp, wu64 (Nat.lt_of_le_of_lt (Nat.div_le_self _ _) hlo)]
  · rw [decide_eq_false (show ¬ (hi : Int) = 0 by omega), cond_false]
    obtain ⟨b1, b2⟩ := bitLen_spec y
    have hb : bitLen y ≤ 64 := bitLen_le hy
    have hb0 : 1 ≤ bitLen y := by
      rcases Nat.eq_zero_or_pos (bitLen y) with e | e
      · rw [e] at b1; omega
      · exact e
    obtain ⟨s, hs⟩ : ∃ s, bitLen y + s = 64 := ⟨64 - bitLen y, by omega⟩
    have hlz : bits_LeadingZeros64 (y : Int) = some (((s : Int), ()), ()) := by
      unfold bits_LeadingZeros64
      rw [bits_Len64_ok hy, Option.bind_some]
      dsimp only
      rw [wrap_i64 (by omega) (by omega)]
      congr 3
      omega
    rw [hlz, Option.bind_some]
    dsimp only
    rw [wu64 (show s < 18446744073709551616 by omega)]
    have hp := Nat.two_pow_pos s
    have h64 : (2 : Nat) ^ bitLen y * 2 ^ s = 18446744073709551616 := by rw [← Nat.pow_add, hs]
    -- the divisor, moved
    have hY : y * 2 ^ s < 18446744073709551616 := by rw [← h64]; exact Nat.mul_lt_mul_of_pos_right b1 hp
    have hY2 : 9223372036854775808 ≤ y * 2 ^ s := by
      have b2 := b2.resolve_left (by omega)
      have e : (2 : Nat) ^ (bitLen y - 1) * 2 ^ s = 9223372036854775808 := by rw [← Nat.pow_add, show bitLen y - 1 + s = 63 by omega]
      rw [← e]; exact Nat.mul_le_mul_right _ b2
    have hH : hi * 2 ^ s < y * 2 ^ s := Nat.mul_lt_mul_of_pos_right h hp
    rw [shl_ok, Option.bind_some, shl_ok, Option.bind_some]
    have w64 : IntKind.u64.wrap (64 - (s : Int)) = ((bitLen y : Nat) : Int) := by rw [wrapu]; omega
    rw [w64, shr_ok, Option.bind_some, shl_ok, Option.bind_some, Nat.min_eq_left (show s ≤ 64 by omega), Nat.min_eq_left hb, Nat.mod_eq_of_lt hY, Nat.mod_eq_of_lt (show hi * 2 ^ s < 18446744073709551616 by omega)]
    -- the dividend, moved
    have hlo1 : lo / 2 ^ bitLen y < 2 ^ s := (Nat.div_lt_iff_lt_mul (Nat.two_pow_pos _)).2 (by rw [Nat.mul_comm, h64]; exact hlo)
    have hsplit : lo * 2 ^ s = lo / 2 ^ bitLen y * 18446744073709551616 + lo * 2 ^ s % 18446744073709551616 := by
      have e1 : lo * 2 ^ s / 18446744073709551616 = lo / 2 ^ bitLen y := by rw [← h64, Nat.mul_div_mul_right _ _ hp]
      have := Nat.div_add_mod (lo * 2 ^ s) 18446744073709551616
      omega
    have hu : hi * 2 ^ s + lo / 2 ^ bitLen y < y * 2 ^ s := by
      have : (hi + 1) * 2 ^ s ≤ y * 2 ^ s := Nat.mul_le_mul_right _ h
      rw [Nat.add_mul, Nat.one_mul] at this
      omega
    have hor := or_add (a := hi * 2 ^ s) (b := lo / 2 ^ bitLen y) (s := s) (Nat.mul_mod_left _ _) hlo1 (by omega)
    rw [hor]
    have hN : (hi * 18446744073709551616 + lo) * 2 ^ s = (hi * 2 ^ s + lo / 2 ^ bitLen y) * 18446744073709551616 + lo * 2 ^ s % 18446744073709551616 := by
      rw [Nat.add_mul, Nat.mul_right_comm]; omega
    have hm64 := Nat.mod_lt (lo * 2 ^ s) (show 0 < 18446744073709551616 by omega)
    generalize hYd : y * 2 ^ s = Y at *
    generalize hi * 2 ^ s + lo / 2 ^ bitLen y = U32 at *
    generalize lo * 2 ^ s % 18446744073709551616 = U10 at *
    rw [and_mask hY, and_mask hm64]
    rw [show (Y : Int).fdiv (2 ^ 32) = ((Y / 4294967296 : Nat) : Int) from fdiv_pow Y 32, show (U10 : Int).fdiv (2 ^ 32) = ((U10 / 4294967296 : Nat) : Int) from fdiv_pow U10 32]
    have hYs : Y = Y / 4294967296 * 4294967296 + Y % 4294967296 := by omega
    have hq : quoI .u64 (U32 : Int) ((Y / 4294967296 : Nat) : Int) = some ((U32 / (Y / 4294967296) : Nat) : Int) := by
      unfold quoI
      rw [if_neg (by omega), Int.tdiv_eq_ediv_of_nonneg (by omega), show ((U32 : Int) / ((Y / 4294967296 : Nat) : Int)) = ((U32 / (Y / 4294967296) : Nat) : Int) from rfl, wu64 (Nat.lt_of_le_of_lt (Nat.div_le_self _ _) (by omega))]
    rw [hq, Option.bind_some]
    have hr : IntKind.u64.wrap ((U32 : Int) - IntKind.u64.wrap (((U32 / (Y / 4294967296) : Nat) : Int) * ((Y / 4294967296 : Nat) : Int))) = ((U32 % (Y / 4294967296) : Nat) : Int) := by
      have h1 := Nat.div_add_mod U32 (Y / 4294967296)
      have h2 := Nat.mod_lt U32 (show 0 < Y / 4294967296 by omega)
      rw [← Int.natCast_mul, Nat.mul_comm, wrapu, wrapu]
      generalize (Y / 4294967296) * (U32 / (Y / 4294967296)) = p at *
      generalize U32 % (Y / 4294967296) = r at *
      omega
    rw [hr]
    have key := div64_s0_ok (s := s) (y1 := Y / 4294967296) (y0 := Y % 4294967296) (un32 := U32) (un1 := U10 / 4294967296) (un0 := U10 % 4294967296) (by omega) (by omega)
      (Dig.init (by omega) (by omega) (by omega) (by omega) (by omega))
    rw [← hYs] at key
    rw [key]
    have hYp : 0 < Y := by omega
    obtain ⟨k1, k2⟩ := div_moved (U := hi * 18446744073709551616 + lo) (y := y) (s := s) (Q1 := (U32 * 4294967296 + U10 / 4294967296) / Y) (u32 := U32) (un1 := U10 / 4294967296) (un0 := U10 % 4294967296)
      (u21 := (U32 * 4294967296 + U10 / 4294967296) % Y) (Q0 := ((U32 * 4294967296 + U10 / 4294967296) % Y * 4294967296 + U10 % 4294967296) / Y) (R := ((U32 * 4294967296 + U10 / 4294967296) % Y * 4294967296 + U10 % 4294967296) % Y)
      (by omega) (by rw [hN]; omega) (by rw [hYd]; exact Nat.div_add_mod _ _) (by rw [hYd]; exact Nat.div_add_mod _ _) (by rw [hYd]; exact Nat.mod_lt _ hYp)
    rw [k1, k2]

theorem word_Div_ok {a d : Nat} (ha : a < 340282366920938463463374607431768211456) (hd : d < 18446744073709551616) (h0 : 0 < d) : word_Div (wp a) (d : Int) = some ((wp (a / d), ((a % d : Nat) : Int), true, ()), ()) := by
  unfold word_Div wp
  rw [decide_eq_false (show ¬ (d : Int) = 0 by omega), cond_false]
  simp only
  unfold quoI remI
  rw [if_neg (by omega), if_neg (by omega), Option.bind_some, Option.bind_some, Int.tdiv_eq_ediv_of_nonneg (by omega), Int.tmod_eq_emod_of_nonneg (by omega)]
  rw [show (((a / 18446744073709551616 : Nat) : Int) % (d : Int)) = ((a / 18446744073709551616 % d : Nat) : Int) from rfl, bits_Div64_ok (by omega) hd (Nat.mod_lt _ h0), Option.bind_some]
  rw [show (((a / 18446744073709551616 : Nat) : Int) / (d : Int)) = ((a / 18446744073709551616 / d : Nat) : Int) from rfl, wu64 (Nat.lt_of_le_of_lt (Nat.div_le_self _ _) (by omega))]
  have hs : a = a / 18446744073709551616 * 18446744073709551616 + a % 18446744073709551616 := by omega
  have hB : a % 18446744073709551616 < 18446744073709551616 := by omega
  generalize a / 18446744073709551616 = A at *
  generalize a % 18446744073709551616 = B at *
  have h1 := Nat.div_add_mod A d
  have h2 := Nat.mod_lt A h0
  have h3 := Nat.div_add_mod (A % d * 18446744073709551616 + B) d
  have h4 := Nat.mod_lt (A % d * 18446744073709551616 + B) h0
  have h5 : (A % d * 18446744073709551616 + B) / d < 18446744073709551616 := (Nat.div_lt_iff_lt_mul h0).2 (by
    have : (A % d + 1) * 18446744073709551616 ≤ d * 18446744073709551616 := Nat.mul_le_mul_right _ h2
    rw [Nat.mul_comm 18446744073709551616]
    omega)
  have hu := (Nat.div_mod_unique (a := a) (c := (A % d * 18446744073709551616 + B) % d) (d := A / d * 18446744073709551616 + (A % d * 18446744073709551616 + B) / d) h0).2 ⟨by
    rw [Nat.mul_add, ← Nat.mul_assoc]
    generalize d * (A / d) = p at *
    generalize d * ((A % d * 18446744073709551616 + B) / d) = q at *
    omega, h4⟩
  rw [hu.1, hu.2]
  obtain ⟨q, hq⟩ : ∃ q, (A % d * 18446744073709551616 + B) / d = q := ⟨_, rfl⟩
  rw [hq] at h5 ⊢
  obtain ⟨p, hp⟩ : ∃ p, A / d = p := ⟨_, rfl⟩
  rw [hp]
  refine congrArg some (Prod.ext (Prod.ext (Prod.ext ?_ (Prod.ext ?_ rfl)) rfl) rfl)
  · dsimp only
    clear hu h1 h2 h3 h4 hq hp hs
    omega
  · dsimp only
    clear hu h1 h2 h3 h4 hq hp hs
    omega

end Go.L

namespace Go.L
open Go Go.Pv
set_option maxRecDepth 100000

/-! ### lists by their places -/
def lrow {α : Type} (n : Nat) (f : Nat → α) : List α := (List.range n).map f

theorem lrow_len {α : Type} (n : Nat) (f : Nat → α) : (lrow n f).length = n := by simp [lrow]

theorem lrow_get {α : Type} {n : Nat} (f : Nat → α) {i : Nat} (h : i < n) : (lrow n f)[i]? = some (f i) := by simp [lrow, h]

theorem lrow_ext {α : Type} {n : Nat} {f g : Nat → α} (h : ∀ i, i < n → f i = g i) : lrow n f = lrow n g := by
  unfold lrow
  exact List.map_congr_left fun i hi => h i (List.mem_range.1 hi)

theorem lrow_rd {α : Type} {n : Nat} (f : Nat → α) {i : Nat} (h : i < n) : rdI (lrow n f) (i : Int) = some (f i) := by
  unfold rdI
  rw [if_pos (by omega)]
  simpa using lrow_get f h

theorem lrow_st {α : Type} {n : Nat} (f : Nat → α) {i : Nat} (h : i < n) (v : α) : stI (lrow n f) (i : Int) v = some (lrow n fun j => bif Nat.beq j i then v else f j) := by
  unfold stI
  rw [if_pos ⟨by omega, by rw [lrow_len]; simpa using h⟩]
  congr 1
  apply List.ext_getElem?
  intro j
  rw [List.getElem?_set, Int.toNat_natCast]
  by_cases hj : j < n
  · rw [lrow_get _ hj]
    by_cases e : i = j
    · subst e
      rw [if_pos rfl, if_pos (by rw [lrow_len]; exact hj), lrow_get _ hj, Nat.beq_refl]
      rfl
    · rw [if_neg e, lrow_get _ hj, nbeq (fun h => e h.symm)]
      rfl
  · have h1 : ∀ g : Nat → α, (lrow n g)[j]? = none := fun g => List.getElem?_eq_none (by rw [lrow_len]; omega)
    rw [h1, h1, if_neg (by omega)]

theorem lrow_of {α : Type} (l : List α) (d : α) : l = lrow l.length fun j => l.getD j d := by
  apply List.ext_getElem?
  intro j
  by_cases hj : j < l.length
  · rw [lrow_get _ hj]
    simp [List.getElem?_eq_getElem hj, List.getD]
  · rw [List.getElem?_eq_none (by omega), List.getElem?_eq_none (by rw [lrow_len]; omega)]

/-! ### digits -/
def D (b w : Nat) : List Nat := if h : b < 2 ∨ w / b = 0 then [w % b] else (w % b) :: D b (w / b)
  termination_by w
  decreasing_by
  have hb : 2 ≤ b := by omega
  have hw : w ≠ 0 := fun e => h (.inr (by rw [e]; simp))
  exact Nat.div_lt_self (by omega) (by omega)

theorem D_eq {b w : Nat} (hb : 2 ≤ b) : D b w = (w % b) :: (if w / b = 0 then [] else D b (w / b)) := by
  rw [D]
  by_cases h : w / b = 0
  · rw [dif_pos (.inr h), if_pos h]
  · rw [dif_neg (by omega), if_neg h]

theorem D_len {b : Nat} (hb : 2 ≤ b) : ∀ k w : Nat, w < 2 ^ (k + 1) → (D b w).length ≤ k + 1
  | 0, w, h => by
    rw [D_eq hb, if_pos (Nat.div_eq_of_lt (by omega))]
    simp
  | k + 1, w, h => by
    rw [D_eq hb]
    by_cases h0 : w / b = 0
    · rw [if_pos h0]; simp
    · rw [if_neg h0, List.length_cons]
      have : w / b < 2 ^ (k + 1) := by
        have h1 : w / b ≤ w / 2 := Nat.div_le_div_left hb (by omega)
        have h2 : w / 2 < 2 ^ (k + 1) := by rw [Nat.pow_succ] at h; omega
        omega
      have := D_len hb k (w / b) this
      omega

/-- a digit's sign -/
def chr (d : Nat) : Int := if d < 10 then 48 + d else 87 + d

theorem hex_rd : ∀ d : Nat, d < 16 → rdI ([48, 49, 50, 51, 52, 53, 54, 55, 56, 57, 97, 98, 99, 100, 101, 102] : List Int) (d : Int) = some (chr d) := by
  have h : ∀ n : Fin 16, rdI ([48, 49, 50, 51, 52, 53, 54, 55, 56, 57, 97, 98, 99, 100, 101, 102] : List Int) ((n.val : Nat) : Int) = some (chr n.val) := by decide
  exact fun n hn => h ⟨n, hn⟩

/-- a word's text -/
def text (b w : Nat) : List Int := ((D b w).map chr).reverse

/-- what is left of a word, and the digits so far -/
def Sofar (b w0 w : Nat) (l : List Nat) : Prop := l ++ (if w = 0 ∧ l ≠ [] then [] else D b w) = D b w0

theorem Sofar.step {b w0 w : Nat} {l : List Nat} (hb : 2 ≤ b) (h : Sofar b w0 w l) (hc : ¬ (w = 0 ∧ l ≠ [])) : Sofar b w0 (w / b) (l ++ [w % b]) := by
  unfold Sofar at *
  rw [if_neg hc, D_eq hb] at h
  rw [← h, List.append_assoc]
  congr 1
  by_cases h0 : w / b = 0
  · rw [if_pos ⟨h0, by simp⟩, if_pos h0]; rfl
  · rw [if_neg (fun h => h0 h.1), if_neg h0]; rfl

theorem Sofar.len {b w0 w : Nat} {l : List Nat} (h : Sofar b w0 w l) : l.length ≤ (D b w0).length := by
  rw [← h, List.length_append]; omega

/-! ### the program's text -/
theorem rev_ok (l : List Int) (hl : l.length < 1000000) : loopR (fun (z : ((List Int) × Int × Int × Unit) × (Unit)) => word_Text_s2 z.1.1 z.1.2.1 z.1.2.2.1) ((l, (IntKind.i64.wrap ((l.length : Int).tdiv 2)), 0, ()), ()) = some ((l.reverse, ()), ()) := by
  have h2 : IntKind.i64.wrap ((l.length : Int).tdiv 2) = ((l.length / 2 : Nat) : Int) := by
    rw [Int.tdiv_eq_ediv_of_nonneg (by omega), wrap_i64 (by omega) (by omega)]; rfl
  rw [h2]
  generalize hn : l.length = n at *
  let g : Nat → Nat → Int := fun i j => if j < i ∨ n - i ≤ j then l.getD (n - 1 - j) 0 else l.getD j 0
  have key := loop_up (f := fun (z : ((List Int) × Int × Int × Unit) × (Unit)) => word_Text_s2 z.1.1 z.1.2.1 z.1.2.2.1) (fun i => ((lrow n (g i), ((n / 2 : Nat) : Int), (i : Int), ()), ())) (n / 2) (r := ((l.reverse, ()), ())) ?_ ?_ 0 (by omega)
  · have h0 : lrow n (g 0) = l := by
      have := lrow_of l (0 : Int)
      rw [hn] at this
      rw [this]
      refine lrow_ext fun i hi => ?_
      simp only [g]
      rw [if_neg (by omega)]
    rw [h0] at key
    exact key
  · intro i hi
    have hlen : (lrow n (g i)).length = n := lrow_len n (g i)
    simp only
    unfold word_Text_s2
    rw [decide_eq_true (show (i : Int) < ((n / 2 : Nat) : Int) by omega), cond_true]
    have e1 : IntKind.i64.wrap (IntKind.i64.wrap (((lrow n (g i)).length : Int) - 1) - (i : Int)) = ((n - 1 - i : Nat) : Int) := by
      rw [hlen, wrap_i64 (n := (n : Int) - 1) (by omega) (by omega), wrap_i64 (by omega) (by omega)]; omega
    simp only [e1]
    rw [hlen, ck_nat (show n - 1 - i < n by omega), lrow_rd _ (show n - 1 - i < n by omega), Option.bind_some, ck_nat (show i < n by omega), lrow_rd _ (show i < n by omega), Option.bind_some, ck_nat (show i < n by omega), lrow_st _ (show i < n by omega), Option.bind_some, lrow_len, ck_nat (show n - 1 - i < n by omega), lrow_st _ (show n - 1 - i < n by omega), Option.bind_some, wi64 (by omega)]
    congr 4
    refine lrow_ext fun j hj => ?_
    simp only [g]
    by_cases e2 : j = n - 1 - i
    · subst e2
      rw [Nat.beq_refl, cond_true, if_neg (by omega), if_pos (by omega), show n - 1 - (n - 1 - i) = i by omega]
    · rw [nbeq e2, cond_false]
      by_cases e3 : j = i
      · subst e3
        rw [Nat.beq_refl, cond_true, if_neg (by omega), if_pos (by omega)]
      · rw [nbeq e3, cond_false]
        by_cases h : j < i ∨ n - i ≤ j
        · rw [if_pos h, if_pos (by omega)]
        · rw [if_neg h, if_neg (by omega)]
  · simp only
    unfold word_Text_s2
    rw [decide_eq_false (show ¬ ((n / 2 : Nat) : Int) < ((n / 2 : Nat) : Int) by omega), cond_false]
    have : lrow n (g (n / 2)) = l.reverse := by
      have hr := lrow_of l.reverse (0 : Int)
      rw [List.length_reverse, hn] at hr
      rw [hr]
      refine lrow_ext fun j hj => ?_
      simp only [g]
      have hrv : l.reverse.getD j 0 = l.getD (n - 1 - j) 0 := by
        simp only [List.getD, List.getElem?_reverse (show j < l.length by omega), hn]
      rw [hrv]
      by_cases h : j < n / 2 ∨ n - n / 2 ≤ j
      · rw [if_pos h]
      · rw [if_neg h, show n - 1 - j = j by omega]
    rw [this]

theorem word_Text_ok {w b : Nat} (hw : w < 340282366920938463463374607431768211456) (hb : 2 ≤ b) (hb2 : b ≤ 16) : word_Text (wp w) (b : Int) = some ((text b w, ()), ()) := by
  unfold word_Text word_based
  have hlen := D_len hb 127 w hw
  simp only [decide_eq_true (show (b : Int) ≥ 2 by omega), gsome, cond_true, Option.bind_some, decide_eq_true (show (b : Int) ≤ 16 by omega), Bool.not_true, cond_false]
  refine loop_meas (fun z => ∃ w' l, w' ≤ w ∧ Sofar b w w' l ∧ z = (((b : Int), l.map chr, ()), wp w', ())) (fun z => (z.2.1.1.toNat * 18446744073709551616 + z.2.1.2.1.toNat) + (if z.1.2.1 = [] then 1 else 0)) ?_ ⟨w, [], Nat.le_refl _, by unfold Sofar; rw [if_neg (by simp)]; rfl, rfl⟩
  rintro _ ⟨w', l, hle, hS, rfl⟩
  have hl := hS.len
  simp only
  unfold word_Text_s0
  have hz : (decide ((wp w').1 = 0) && decide ((wp w').2.1 = 0)) = decide (w' = 0) := by
    unfold wp
    simp only
    by_cases h : w' = 0
    · subst h; rfl
    · rw [decide_eq_false h]
      by_cases h1 : ((w' / 18446744073709551616 : Nat) : Int) = 0
      · rw [decide_eq_true h1, decide_eq_false (by omega)]; rfl
      · rw [decide_eq_false h1]; rfl
  have hd := word_Div_ok (a := w') (d := b) (by omega) (by omega) (by omega)
  have hdm := Nat.mod_lt w' (show 0 < b by omega)
  have hstep : (word_Div ((wp w').1, (wp w').2.1, ()) (IntKind.u64.wrap (b : Int))).bind (fun r_7 =>
    (rdI ([48, 49, 50, 51, 52, 53, 54, 55, 56, 57, 97, 98, 99, 100, 101, 102] : List Int) r_7.1.2.1).bind fun v_8 =>
    (roomI 1 (l.map chr) [v_8]).bind fun v_9 =>
    (some (.inl (((b : Int), v_9, ()), r_7.1.1, ())) : Option (((Int × (List Int) × Unit) × ((Int × Int × Unit) × Unit)) ⊕ (((List Int) × Unit) × (Unit))))) = some (.inl (((b : Int), (l ++ [w' % b]).map chr, ()), wp (w' / b), ())) := by
    rw [wu64 (by omega), show word_Div ((wp w').1, (wp w').2.1, ()) (b : Int) = _ from hd, Option.bind_some]
    dsimp only
    rw [hex_rd _ (by omega), Option.bind_some]
    unfold roomI
    rw [if_pos (by simp; omega), Option.bind_some, List.map_append]
    rfl
  have hmeas : ∀ c : Nat, (wp c).1.toNat * 18446744073709551616 + (wp c).2.1.toNat = c := fun c => by unfold wp; simp only [Int.toNat_natCast]; omega
  simp only [hz, gsome]
  by_cases h : w' = 0 ∧ l ≠ []
  · left
    obtain ⟨rfl, h2⟩ := h
    have hne : ¬ ((l.map chr).length : Int) = 0 := by
      cases l with
      | nil => exact absurd rfl h2
      | cons x l => simp; omega
    simp only [decide_true, Bool.not_true, Bool.not_false, cond_true, cond_false, decide_eq_false hne]
    rw [rev_ok _ (by simp; omega)]
    have : l = D b w := by
      have := hS
      unfold Sofar at this
      rw [if_pos ⟨rfl, h2⟩, List.append_nil] at this
      exact this
    rw [this]
    rfl
  · right
    have hc : (bif !decide (w' = 0) then true else (bif !!decide (w' = 0) then decide ((bif !!decide (w' = 0) then ((l.map chr).length : Int) else 0) = 0) else false)) = true := by
      by_cases h1 : w' = 0
      · have h2 : l = [] := Classical.byContradiction fun h2 => h ⟨h1, h2⟩
        subst h2
        rw [decide_eq_true h1]
        rfl
      · rw [decide_eq_false h1]
        rfl
    rw [hc, cond_true, hstep]
    refine ⟨_, rfl, ⟨w' / b, l ++ [w' % b], Nat.le_trans (Nat.div_le_self _ _) hle, hS.step hb h, rfl⟩, ?_⟩
    simp only [hmeas]
    rw [if_neg (by simp)]
    by_cases h1 : w' = 0
    · have h2 : l = [] := Classical.byContradiction fun h2 => h ⟨h1, h2⟩
      subst h1; subst h2
      simp
    · have := Nat.div_lt_self (show 0 < w' by omega) (show 1 < b by omega)
      omega

/-! ### the reference's text -/
theorem ref01_Text_ok {w b : Nat} (hw : w < 340282366920938463463374607431768211456) (hb : 2 ≤ b) (hb2 : b ≤ 16) : ref01_Text (rowB (BitVec.ofNat 128 w)) (b : Int) = some ((text b w, ()), ()) := by
  unfold ref01_Text
  have hlen := D_len hb 127 w hw
  refine loop_meas (fun z => ∃ w' l, w' ≤ w ∧ Sofar b w w' l ∧ z = (((b : Int), (l.map chr).reverse, ()), rowB (BitVec.ofNat 128 w'), ())) (fun z => 129 - z.1.2.1.length) ?_ ⟨w, [], Nat.le_refl _, by unfold Sofar; rw [if_neg (by simp)]; rfl, rfl⟩
  rintro _ ⟨w', l, hle, hS, rfl⟩
  have hl := hS.len
  have hw' : w' < 2 ^ 128 := by omega
  simp only
  unfold ref01_Text_s0
  rw [ref01_Len_ok, BitVec.toNat_ofNat, Nat.mod_eq_of_lt hw', Option.bind_some]
  have hlz : decide (((bitLen w' : Nat) : Int) > 0) = !decide (w' = 0) := by
    by_cases h : w' = 0
    · subst h; rfl
    · rw [decide_eq_false h, decide_eq_true]
      · rfl
      · unfold bitLen; rw [if_neg h]; omega
  simp only [hlz, gsome]
  have hdm := Nat.mod_lt w' (show 0 < b by omega)
  have hstep : (ref01_small (b : Int)).bind (fun r_5 => (ref01_Part (rowB (BitVec.ofNat 128 w')) r_5.1.1).bind fun r_6 => (ref01_Halves r_6.1.2.1).bind fun r_7 =>
    (subL ([48, 49, 50, 51, 52, 53, 54, 55, 56, 57, 97, 98, 99, 100, 101, 102] : List Int) r_7.1.2.1 (IntKind.u64.wrap (r_7.1.2.1 + 1))).bind fun v_9 => (catI v_9 (l.map chr).reverse).bind fun v_10 =>
    (some (.inl (((b : Int), v_10, ()), r_6.1.1, ())) : Option (((Int × (List Int) × Unit) × ((List Bool) × Unit)) ⊕ (((List Int) × Unit) × (Unit))))) = some (.inl (((b : Int), ((l ++ [w' % b]).map chr).reverse, ()), rowB (BitVec.ofNat 128 (w' / b)), ())) := by
    rw [ref01_small_ok (by omega), Option.bind_some]
    dsimp only
    rw [ref01_Part_ok _ _ (by rw [BitVec.toNat_ofNat]; omega), Option.bind_some]
    dsimp only
    rw [BitVec.toNat_ofNat, BitVec.toNat_ofNat, Nat.mod_eq_of_lt hw', Nat.mod_eq_of_lt (show b < 2 ^ 128 by omega)]
    have hh := ref01_Halves_ok (hi := 0) (lo := w' % b) (by omega) (by omega)
    have hwd : wd 0 (w' % b) = BitVec.ofNat 128 (w' % b) := by simp [wd]
    rw [hwd] at hh
    rw [hh, Option.bind_some]
    dsimp only
    have hsub : subL ([48, 49, 50, 51, 52, 53, 54, 55, 56, 57, 97, 98, 99, 100, 101, 102] : List Int) ((w' % b : Nat) : Int) (IntKind.u64.wrap (((w' % b : Nat) : Int) + 1)) = some [chr (w' % b)] := by
      have : ∀ n : Fin 16, subL ([48, 49, 50, 51, 52, 53, 54, 55, 56, 57, 97, 98, 99, 100, 101, 102] : List Int) ((n.val : Nat) : Int) (IntKind.u64.wrap (((n.val : Nat) : Int) + 1)) = some [chr n.val] := by decide
      exact this ⟨w' % b, by omega⟩
    rw [hsub, Option.bind_some]
    unfold catI
    rw [if_pos (by simp; omega), Option.bind_some, List.map_append, List.reverse_append]
    rfl
  by_cases h : w' = 0 ∧ l ≠ []
  · left
    obtain ⟨rfl, h2⟩ := h
    have hne : ¬ (l.map chr).reverse = [] := by simpa using h2
    simp only [decide_true, Bool.not_true, Bool.not_false, cond_true, cond_false, decide_eq_false hne]
    have : l = D b w := by
      have := hS
      unfold Sofar at this
      rw [if_pos ⟨rfl, h2⟩, List.append_nil] at this
      exact this
    rw [this]
    rfl
  · right
    have hc : (bif !decide (w' = 0) then true else (bif !!decide (w' = 0) then decide ((l.map chr).reverse = []) else false)) = true := by
      by_cases h1 : w' = 0
      · have h2 : l = [] := Classical.byContradiction fun h2 => h ⟨h1, h2⟩
        subst h2
        rw [decide_eq_true h1]
        rfl
      · rw [decide_eq_false h1]
        rfl
    rw [hc, cond_true, hstep]
    refine ⟨_, rfl, ⟨w' / b, l ++ [w' % b], Nat.le_trans (Nat.div_le_self _ _) hle, hS.step hb h, rfl⟩, ?_⟩
    have := (hS.step hb h).len
    simp only [List.length_reverse, List.length_map, List.length_append, List.length_singleton] at this ⊢
    omega

end Go.L

namespace Go.L
open Go Go.Pv
set_option maxRecDepth 100000

/-! ### bit by bit -/
theorem u64_bv {z : Nat} (hz : z < 18446744073709551616) {b : BitVec 64} (h : ∀ i, i < 64 → b.getLsbD i = z.testBit i) : IntKind.u64.wrap (b.toNat : Int) = (z : Int) := by
  have : b = BitVec.ofNat 64 z := by
    apply BitVec.eq_of_getLsbD_eq
    intro i hi
    rw [h i hi, BitVec.getLsbD_ofNat]
    simp [hi]
  rw [this, BitVec.toNat_ofNat, Nat.mod_eq_of_lt (show z < 2 ^ 64 by omega), wu64 hz]

theorem and64 {x y : Nat} (hx : x < 18446744073709551616) (hy : y < 18446744073709551616) : bitsI .and .u64 (x : Int) (y : Int) = ((x &&& y : Nat) : Int) := by
  change IntKind.u64.wrap ((BitVec.ofInt 64 (x : Int) &&& BitVec.ofInt 64 (y : Int)).toNat : Int) = _
  rw [BitVec.ofInt_natCast, BitVec.ofInt_natCast]
  exact u64_bv (Nat.and_lt_two_pow (n := 64) x hy) fun i hi => by simp only [BitVec.getLsbD_and, BitVec.getLsbD_or, BitVec.getLsbD_xor, BitVec.getLsbD_ofNat, hi, decide_true, Bool.true_and, Nat.testBit_and, Nat.testBit_or, Nat.testBit_xor]

theorem or64 {x y : Nat} (hx : x < 18446744073709551616) (hy : y < 18446744073709551616) : bitsI .or .u64 (x : Int) (y : Int) = ((x ||| y : Nat) : Int) := by
  change IntKind.u64.wrap ((BitVec.ofInt 64 (x : Int) ||| BitVec.ofInt 64 (y : Int)).toNat : Int) = _
  rw [BitVec.ofInt_natCast, BitVec.ofInt_natCast]
  exact u64_bv (Nat.or_lt_two_pow (n := 64) hx hy) fun i hi => by simp only [BitVec.getLsbD_and, BitVec.getLsbD_or, BitVec.getLsbD_xor, BitVec.getLsbD_ofNat, hi, decide_true, Bool.true_and, Nat.testBit_and, Nat.testBit_or, Nat.testBit_xor]

theorem xor64 {x y : Nat} (hx : x < 18446744073709551616) (hy : y < 18446744073709551616) : bitsI .xor .u64 (x : Int) (y : Int) = ((x ^^^ y : Nat) : Int) := by
  change IntKind.u64.wrap ((BitVec.ofInt 64 (x : Int) ^^^ BitVec.ofInt 64 (y : Int)).toNat : Int) = _
  rw [BitVec.ofInt_natCast, BitVec.ofInt_natCast]
  exact u64_bv (Nat.xor_lt_two_pow (n := 64) hx hy) fun i hi => by simp only [BitVec.getLsbD_and, BitVec.getLsbD_or, BitVec.getLsbD_xor, BitVec.getLsbD_ofNat, hi, decide_true, Bool.true_and, Nat.testBit_and, Nat.testBit_or, Nat.testBit_xor]

/-- a number made of two halves -/
theorem wp_half (f : Bool → Bool → Bool) (hf : f false false = false) (g : Nat → Nat → Nat) (hg : ∀ x y i, (g x y).testBit i = f (x.testBit i) (y.testBit i)) (a b : Nat) :
    g a b / 18446744073709551616 = g (a / 18446744073709551616) (b / 18446744073709551616) ∧ g a b % 18446744073709551616 = g (a % 18446744073709551616) (b % 18446744073709551616) := by
  constructor
  · apply Nat.eq_of_testBit_eq
    intro i
    rw [show 18446744073709551616 = 2 ^ 64 from rfl, Nat.testBit_div_two_pow, hg, hg, Nat.testBit_div_two_pow, Nat.testBit_div_two_pow]
  · apply Nat.eq_of_testBit_eq
    intro i
    rw [show 18446744073709551616 = 2 ^ 64 from rfl, Nat.testBit_mod_two_pow, hg, hg, Nat.testBit_mod_two_pow, Nat.testBit_mod_two_pow]
    by_cases h : i < 64
    · simp [h]
    · simp [h, hf]

theorem word_And_ok {a b : Nat} (ha : a < 340282366920938463463374607431768211456) (hb : b < 340282366920938463463374607431768211456) : word_And (wp a) (wp b) = some ((wp (a &&& b), ()), ()) := by
  obtain ⟨h1, h2⟩ := wp_half and rfl (· &&& ·) (fun x y i => Nat.testBit_and x y i) a b
  unfold word_And wp
  dsimp only
  rw [and64 (by omega) (by omega), and64 (by omega) (by omega)]
  rw [h1, h2]

theorem not64 {x : Nat} (hx : x < 18446744073709551616) : bitsI .xor .u64 IntKind.u64.max (x : Int) = ((18446744073709551615 - x : Nat) : Int) := by
  have hm : IntKind.u64.max = ((18446744073709551615 : Nat) : Int) := by decide
  rw [hm, xor64 (by omega) hx]
  congr 1
  apply Nat.eq_of_testBit_eq
  intro i
  rw [Nat.testBit_xor]
  have h := Nat.testBit_two_pow_sub_succ (n := 64) (x := x) (by omega) i
  rw [show 2 ^ 64 - (x + 1) = 18446744073709551615 - x by omega] at h
  rw [h]
  have h2 := Nat.testBit_two_pow_sub_one 64 i
  rw [show 2 ^ 64 - 1 = 18446744073709551615 from rfl] at h2
  rw [h2]
  by_cases hi : i < 64
  · simp [hi]
  · simp [hi]
    exact Nat.testBit_lt_two_pow (Nat.lt_of_lt_of_le hx (by rw [show 18446744073709551616 = 2 ^ 64 from rfl]; exact Nat.pow_le_pow_right (by omega) (by omega)))

theorem word_Not_ok {a : Nat} (ha : a < 340282366920938463463374607431768211456) : word_Not (wp a) = some ((wp (340282366920938463463374607431768211455 - a), ()), ()) := by
  unfold word_Not wp
  dsimp only
  rw [not64 (by omega), not64 (by omega)]
  refine congrArg some (Prod.ext (Prod.ext (Prod.ext ?_ (Prod.ext ?_ rfl)) rfl) rfl)
  · dsimp only; omega
  · dsimp only; omega

/-! ### moved -/
theorem shl64 {n k : Nat} (hk : k ≤ 64) : shlI .u64 (n : Int) (k : Int) = some (((n * 2 ^ k % 18446744073709551616 : Nat) : Int)) := by rw [shl_ok, Nat.min_eq_left hk]
theorem shr64 {n k : Nat} (hk : k ≤ 64) : shrI .u64 (n : Int) (k : Int) = some (((n / 2 ^ k : Nat) : Int)) := by rw [shr_ok, Nat.min_eq_left hk]

theorem pow_split {n : Nat} (h : n ≤ 64) : 2 ^ n * 2 ^ (64 - n) = 18446744073709551616 := by rw [← Nat.pow_add, show n + (64 - n) = 64 by omega]

theorem mod_div_pow (lo n : Nat) (h : n ≤ 64) (hlo : lo < 18446744073709551616) : lo * 2 ^ n / 18446744073709551616 = lo / 2 ^ (64 - n) := by
  rw [← pow_split h, Nat.mul_comm (2 ^ n), Nat.mul_div_mul_right _ _ (Nat.two_pow_pos n)]

theorem shl_g_ok {F G : (Int × Int × Unit) → Int → Option (((Int × Int × Unit) × Unit) × (Unit))} {a n : Nat} (ha : a < 340282366920938463463374607431768211456) : word_Shl_g F G (wp a) (n : Int) = some ((wp (if n < 128 then a * 2 ^ n % 340282366920938463463374607431768211456 else 0), ()), ()) := by
  unfold word_Shl_g
  have hpa : ((wp a).1, (wp a).2.1, ()) = wp a := rfl
  simp only [gsome, decide_eq_false (show ¬ (n : Int) ≤ -128 by omega), Bool.not_false, cond_true, cond_false, decide_eq_false (show ¬ (n : Int) < 0 by omega)]
  by_cases h128 : n < 128
  · rw [decide_eq_false (show ¬ (n : Int) ≥ 128 by omega), cond_false, if_pos h128]
    by_cases h0 : n = 0
    · subst h0
      rw [decide_eq_true (show ((0 : Nat) : Int) = 0 from rfl), cond_true, Nat.pow_zero, Nat.mul_one, Nat.mod_eq_of_lt ha]
    · rw [decide_eq_false (show ¬ (n : Int) = 0 by omega), cond_false]
      by_cases h64 : 64 ≤ n
      · rw [decide_eq_true (show (n : Int) ≥ 64 by omega), cond_true, show IntKind.i64.wrap ((n : Int) - 64) = ((n - 64 : Nat) : Int) by rw [wrap_i64 (by omega) (by omega)]; omega]
        unfold wp
        dsimp only
        rw [shl64 (by omega), Option.bind_some]
        have e : a * 2 ^ n = a * 2 ^ (n - 64) * 18446744073709551616 := by
          rw [show 18446744073709551616 = 2 ^ 64 from rfl, Nat.mul_assoc, ← Nat.pow_add, Nat.sub_add_cancel h64]
        rw [e]
        have e2 : a % 18446744073709551616 * 2 ^ (n - 64) % 18446744073709551616 = a * 2 ^ (n - 64) % 18446744073709551616 := Nat.mod_mul_mod a (2 ^ (n - 64)) 18446744073709551616
        rw [e2]
        generalize a * 2 ^ (n - 64) = m
        refine congrArg some (Prod.ext (Prod.ext (Prod.ext ?_ (Prod.ext ?_ rfl)) rfl) rfl)
        · dsimp only; first | done | omega
        · dsimp only; first | done | omega
      · rw [decide_eq_false (show ¬ (n : Int) ≥ 64 by omega), cond_false, show IntKind.i64.wrap (64 - (n : Int)) = ((64 - n : Nat) : Int) by rw [wrap_i64 (by omega) (by omega)]; omega]
        unfold wp
        dsimp only
        rw [shl64 (by omega), Option.bind_some, shr64 (by omega), Option.bind_some, shl64 (by omega), Option.bind_some]
        have hlo : a % 18446744073709551616 < 18446744073709551616 := Nat.mod_lt _ (by omega)
        have hs : a * 2 ^ n = a / 18446744073709551616 * 2 ^ n * 18446744073709551616 + a % 18446744073709551616 * 2 ^ n := by
          have : a = a / 18446744073709551616 * 18446744073709551616 + a % 18446744073709551616 := by omega
          rw [show a * 2 ^ n = (a / 18446744073709551616 * 18446744073709551616 + a % 18446744073709551616) * 2 ^ n by rw [← this], Nat.add_mul, Nat.mul_right_comm]
        have hd := mod_div_pow (a % 18446744073709551616) n (by omega) hlo
        have hlt : a % 18446744073709551616 / 2 ^ (64 - n) < 2 ^ n := by
          refine (Nat.div_lt_iff_lt_mul (Nat.two_pow_pos _)).2 ?_
          rw [pow_split (by omega)]; exact hlo
        have hmz : a / 18446744073709551616 * 2 ^ n % 18446744073709551616 % 2 ^ n = 0 := by
          rw [← pow_split (show n ≤ 64 by omega), Nat.mod_mul_right_mod, Nat.mul_mod_left]
        have hle : a / 18446744073709551616 * 2 ^ n % 18446744073709551616 + a % 18446744073709551616 / 2 ^ (64 - n) < 18446744073709551616 := by
          have h1 : a / 18446744073709551616 * 2 ^ n % 18446744073709551616 = 2 ^ n * (a / 18446744073709551616 % 2 ^ (64 - n)) := by
            rw [← pow_split (show n ≤ 64 by omega), Nat.mul_comm (a / (2 ^ n * 2 ^ (64 - n))) (2 ^ n), Nat.mul_mod_mul_left]
          have h2 : a / 18446744073709551616 % 2 ^ (64 - n) + 1 ≤ 2 ^ (64 - n) := Nat.mod_lt _ (Nat.two_pow_pos _)
          have h3 := Nat.mul_le_mul_left (2 ^ n) h2
          rw [pow_split (by omega), Nat.mul_add, Nat.mul_one, ← h1] at h3
          omega
        rw [or_add hmz hlt hle, hs, ← hd]
        generalize a / 18446744073709551616 * 2 ^ n = p at *
        generalize a % 18446744073709551616 * 2 ^ n = q at *
        clear hmz hlt hs hpa
        refine congrArg some (Prod.ext (Prod.ext (Prod.ext ?_ (Prod.ext ?_ rfl)) rfl) rfl)
        · dsimp only; omega
        · dsimp only; omega
  · rw [decide_eq_true (show (n : Int) ≥ 128 by omega), cond_true, if_neg h128]
    rfl

theorem shr_g_ok {F G : (Int × Int × Unit) → Int → Option (((Int × Int × Unit) × Unit) × (Unit))} {a n : Nat} (ha : a < 340282366920938463463374607431768211456) : word_Shr_g F G (wp a) (n : Int) = some ((wp (a / 2 ^ n), ()), ()) := by
  unfold word_Shr_g
  simp only [gsome, decide_eq_false (show ¬ (n : Int) ≤ -128 by omega), Bool.not_false, cond_true, cond_false, decide_eq_false (show ¬ (n : Int) < 0 by omega)]
  by_cases h128 : n < 128
  · rw [decide_eq_false (show ¬ (n : Int) ≥ 128 by omega), cond_false]
    by_cases h0 : n = 0
    · subst h0
      rw [decide_eq_true (show ((0 : Nat) : Int) = 0 from rfl), cond_true, Nat.pow_zero, Nat.div_one]
    · rw [decide_eq_false (show ¬ (n : Int) = 0 by omega), cond_false]
      by_cases h64 : 64 ≤ n
      · rw [decide_eq_true (show (n : Int) ≥ 64 by omega), cond_true, show IntKind.i64.wrap ((n : Int) - 64) = ((n - 64 : Nat) : Int) by rw [wrap_i64 (by omega) (by omega)]; omega]
        unfold wp
        dsimp only
        rw [shr64 (by omega), Option.bind_some]
        have e : a / 2 ^ n = a / 18446744073709551616 / 2 ^ (n - 64) := by
          rw [show 18446744073709551616 = 2 ^ 64 from rfl, Nat.div_div_eq_div_mul, ← Nat.pow_add, show 64 + (n - 64) = n by omega]
        have hlt : a / 2 ^ n < 18446744073709551616 := by rw [e]; exact Nat.lt_of_le_of_lt (Nat.div_le_self _ _) (by omega)
        rw [← e]
        generalize a / 2 ^ n = m at *
        refine congrArg some (Prod.ext (Prod.ext (Prod.ext ?_ (Prod.ext ?_ rfl)) rfl) rfl)
        · dsimp only; first | done | omega
        · dsimp only; first | done | omega
      · rw [decide_eq_false (show ¬ (n : Int) ≥ 64 by omega), cond_false, show IntKind.i64.wrap (64 - (n : Int)) = ((64 - n : Nat) : Int) by rw [wrap_i64 (by omega) (by omega)]; omega]
        unfold wp
        dsimp only
        rw [shr64 (by omega), Option.bind_some, shr64 (by omega), Option.bind_some, shl64 (by omega), Option.bind_some]
        have hp := Nat.two_pow_pos n
        have hq := Nat.two_pow_pos (64 - n)
        have hsp := pow_split (show n ≤ 64 by omega)
        have hl1 : a % 18446744073709551616 / 2 ^ n < 2 ^ (64 - n) := (Nat.div_lt_iff_lt_mul hp).2 (by rw [Nat.mul_comm, hsp]; exact Nat.mod_lt _ (by omega))
        have hm : a / 18446744073709551616 * 2 ^ (64 - n) % 18446744073709551616 = 2 ^ (64 - n) * (a / 18446744073709551616 % 2 ^ n) := by
          rw [← hsp, Nat.mul_comm (2 ^ n), Nat.mul_comm (a / (2 ^ (64 - n) * 2 ^ n)), Nat.mul_mod_mul_left]
        have hsum : 2 ^ (64 - n) * (a / 18446744073709551616 % 2 ^ n) + a % 18446744073709551616 / 2 ^ n < 18446744073709551616 := by
          have h2 : a / 18446744073709551616 % 2 ^ n + 1 ≤ 2 ^ n := Nat.mod_lt _ hp
          have h3 := Nat.mul_le_mul_left (2 ^ (64 - n)) h2
          rw [Nat.mul_comm (2 ^ (64 - n)) (2 ^ n), hsp, Nat.mul_add, Nat.mul_one] at h3
          omega
        have hor : bitsI .or .u64 ((a % 18446744073709551616 / 2 ^ n : Nat) : Int) ((a / 18446744073709551616 * 2 ^ (64 - n) % 18446744073709551616 : Nat) : Int) = ((2 ^ (64 - n) * (a / 18446744073709551616 % 2 ^ n) + a % 18446744073709551616 / 2 ^ n : Nat) : Int) := by
          rw [hm]
          have := or_add (a := 2 ^ (64 - n) * (a / 18446744073709551616 % 2 ^ n)) (b := a % 18446744073709551616 / 2 ^ n) (s := 64 - n) (Nat.mul_mod_right _ _) hl1 hsum
          rw [← this, or64 (by omega) (by omega), or64 (by omega) (by omega), Nat.or_comm]
        rw [hor]
        have hval : a / 2 ^ n = a / 18446744073709551616 / 2 ^ n * 18446744073709551616 + (2 ^ (64 - n) * (a / 18446744073709551616 % 2 ^ n) + a % 18446744073709551616 / 2 ^ n) := by
          have h1 : a = 18446744073709551616 * (a / 18446744073709551616) + a % 18446744073709551616 := by omega
          have h2 := Nat.div_add_mod (a / 18446744073709551616) (2 ^ n)
          have h3 := Nat.div_add_mod (a % 18446744073709551616) (2 ^ n)
          have hr := Nat.mod_lt (a % 18446744073709551616) hp
          refine ((Nat.div_mod_unique (a := a) (c := a % 18446744073709551616 % 2 ^ n) hp).2 ⟨?_, hr⟩).1
          generalize a / 18446744073709551616 = A at *
          generalize a % 18446744073709551616 = B at *
          rw [Nat.mul_add, Nat.mul_add, ← Nat.mul_assoc (2 ^ n) (2 ^ (64 - n)), hsp, ← Nat.mul_assoc]
          generalize 2 ^ n * (A / 2 ^ n) = p at *
          generalize 2 ^ n * (B / 2 ^ n) = q at *
          omega
        rw [hval]
        generalize 2 ^ (64 - n) * (a / 18446744073709551616 % 2 ^ n) + a % 18446744073709551616 / 2 ^ n = q at *
        generalize a / 18446744073709551616 / 2 ^ n = p at *
        clear hor hm hval hl1 hsp
        refine congrArg some (Prod.ext (Prod.ext (Prod.ext ?_ (Prod.ext ?_ rfl)) rfl) rfl)
        · dsimp only; omega
        · dsimp only; omega
  · rw [decide_eq_true (show (n : Int) ≥ 128 by omega), cond_true, Nat.div_eq_of_lt (Nat.lt_of_lt_of_le ha (by rw [show 340282366920938463463374607431768211456 = 2 ^ 128 from rfl]; exact Nat.pow_le_pow_right (by omega) (by omega)))]
    rfl

/-- moved by n places: up, or down -/
def moved (a : Nat) (n : Int) : Nat := if 0 ≤ n then (if n < 128 then a * 2 ^ n.toNat % 340282366920938463463374607431768211456 else 0) else a / 2 ^ (-n).toNat

end Go.L

namespace Go.L
open Go Go.Pv
set_option maxRecDepth 100000

theorem div_big {a n : Nat} (ha : a < 340282366920938463463374607431768211456) (h : 128 ≤ n) : a / 2 ^ n = 0 :=
  Nat.div_eq_of_lt (Nat.lt_of_lt_of_le ha (by rw [show 340282366920938463463374607431768211456 = 2 ^ 128 from rfl]; exact Nat.pow_le_pow_right (by omega) h))

theorem moved_lt {a : Nat} (ha : a < 340282366920938463463374607431768211456) (n : Int) : moved a n < 340282366920938463463374607431768211456 := by
  unfold moved
  split
  · split
    · exact Nat.mod_lt _ (by omega)
    · omega
  · exact Nat.lt_of_le_of_lt (Nat.div_le_self _ _) ha

theorem shl_g_neg {F G : (Int × Int × Unit) → Int → Option (((Int × Int × Unit) × Unit) × (Unit))} {a : Nat} {n : Int} (ha : a < 340282366920938463463374607431768211456) (hn : n < 0) (hG : ∀ k : Nat, G (wp a) (k : Int) = some ((wp (a / 2 ^ k), ()), ())) : word_Shl_g F G (wp a) n = some ((wp (a / 2 ^ (-n).toNat), ()), ()) := by
  have hpa : ((wp a).1, (wp a).2.1, ()) = wp a := rfl
  unfold word_Shl_g
  simp only [gsome]
  by_cases h : n ≤ -128
  · rw [decide_eq_true h, cond_true, cond_true, div_big ha (by omega)]
    rfl
  · rw [decide_eq_false h, Bool.not_false, cond_true, cond_false, decide_eq_false (show ¬ n ≥ 128 by omega), cond_false, decide_eq_true hn, cond_true, hpa, show IntKind.i64.wrap (0 - n) = (((-n).toNat : Nat) : Int) by rw [wrap_i64 (by omega) (by omega)]; omega, hG]
    rfl

theorem shr_g_neg {F G : (Int × Int × Unit) → Int → Option (((Int × Int × Unit) × Unit) × (Unit))} {a : Nat} {n : Int} (hn : n < 0) (hF : ∀ k : Nat, F (wp a) (k : Int) = some ((wp (if k < 128 then a * 2 ^ k % 340282366920938463463374607431768211456 else 0), ()), ())) : word_Shr_g F G (wp a) n = some ((wp (if -n < 128 then a * 2 ^ (-n).toNat % 340282366920938463463374607431768211456 else 0), ()), ()) := by
  have hpa : ((wp a).1, (wp a).2.1, ()) = wp a := rfl
  unfold word_Shr_g
  simp only [gsome]
  by_cases h : n ≤ -128
  · rw [decide_eq_true h, cond_true, cond_true, if_neg (by omega)]
    rfl
  · rw [decide_eq_false h, Bool.not_false, cond_true, cond_false, decide_eq_false (show ¬ n ≥ 128 by omega), cond_false, decide_eq_true hn, cond_true, hpa, show IntKind.i64.wrap (0 - n) = (((-n).toNat : Nat) : Int) by rw [wrap_i64 (by omega) (by omega)]; omega, hF, if_pos (show (-n).toNat < 128 by omega), if_pos (show -n < 128 by omega)]
    rfl

theorem word_Shl_ok {a : Nat} {n : Int} (ha : a < 340282366920938463463374607431768211456) : word_Shl (wp a) n = some ((wp (moved a n), ()), ()) := by
  show word_Shl_g (word_Shr_lv 2).1 (word_Shr_g (word_Shr_lv 1).1 (word_Shr_lv 1).2) (wp a) n = _
  unfold moved
  by_cases h : 0 ≤ n
  · obtain ⟨k, rfl⟩ : ∃ k : Nat, n = k := ⟨n.toNat, by omega⟩
    rw [shl_g_ok ha, if_pos h, Int.toNat_natCast]
    by_cases h2 : k < 128
    · rw [if_pos h2, if_pos (by omega)]
    · rw [if_neg h2, if_neg (by omega)]
  · rw [if_neg h, shl_g_neg ha (by omega) fun k => shr_g_ok ha]

theorem word_Shr_ok {a : Nat} {n : Int} (ha : a < 340282366920938463463374607431768211456) : word_Shr (wp a) n = some ((wp (moved a (-n)), ()), ()) := by
  show word_Shr_g (word_Shl_g (word_Shr_lv 1).1 (word_Shr_lv 1).2) (word_Shr_lv 2).2 (wp a) n = _
  unfold moved
  by_cases h : n < 0
  · rw [shr_g_neg h fun k => shl_g_ok ha, if_pos (show 0 ≤ -n by omega)]
  · obtain ⟨k, rfl⟩ : ∃ k : Nat, n = k := ⟨n.toNat, by omega⟩
    rw [shr_g_ok ha]
    by_cases h2 : k = 0
    · subst h2
      rw [if_pos (by omega), if_pos (by omega), show (-((0 : Nat) : Int)).toNat = 0 by omega, Nat.pow_zero, Nat.mul_one, Nat.div_one, Nat.mod_eq_of_lt ha]
    · rw [if_neg (by omega), show (-(-(k : Int))).toNat = k by omega]

theorem wp0 : ((0, 0, ()) : Int × Int × Unit) = wp 0 := rfl
theorem wp1 : ((0, 1, ()) : Int × Int × Unit) = wp 1 := rfl

theorem word_Ones_ok {n : Int} : word_Ones n = some ((wp (2 ^ min n.toNat 128 - 1), ()), ()) := by
  unfold word_Ones
  by_cases h : n ≤ 0
  · rw [decide_eq_true h, cond_true, show n.toNat = 0 by omega]
    rfl
  · rw [decide_eq_false h, cond_false]
    by_cases h2 : n ≥ 128
    · rw [decide_eq_true h2, cond_true, wp0, word_Not_ok (by omega), Nat.min_eq_right (by omega)]
      rfl
    · rw [decide_eq_false h2, cond_false, wp1, word_Shl_ok (by omega)]
      dsimp only [Option.bind_some]
      have hm : moved 1 n = 2 ^ n.toNat := by
        unfold moved
        rw [if_pos (by omega), if_pos (by omega), Nat.one_mul]
        refine Nat.mod_eq_of_lt ?_
        rw [show 340282366920938463463374607431768211456 = 2 ^ 128 from rfl]
        exact Nat.pow_lt_pow_right (by omega) (by omega)
      rw [word_Sub_ok (moved_lt (by omega) n) (by omega), hm, Nat.min_eq_left (by omega)]
      dsimp only [Option.bind_some]
      have hp := Nat.two_pow_pos n.toNat
      have hl : 2 ^ n.toNat < 340282366920938463463374607431768211456 := by
        rw [← hm]; exact moved_lt (by omega) n
      rw [show (2 ^ n.toNat + (340282366920938463463374607431768211456 - 1)) % 340282366920938463463374607431768211456 = 2 ^ n.toNat - 1 by omega]

theorem word_Len_ok {a : Nat} (ha : a < 340282366920938463463374607431768211456) : word_Len (wp a) = some (((bitLen a : Int), ()), ()) := by
  unfold word_Len
  by_cases h : 18446744073709551616 ≤ a
  · rw [decide_eq_true (show (wp a).1 > 0 by show (((a / 18446744073709551616 : Nat)) : Int) > 0; omega), cond_true]
    show (bits_Len64 ((a / 18446744073709551616 : Nat) : Int)).bind _ = _
    rw [bits_Len64_ok (by omega), Option.bind_some]
    dsimp only
    have h1 := bitLen_shift (n := a) (k := 64) (by rw [show 2 ^ 64 = 18446744073709551616 from rfl]; exact h)
    rw [show 2 ^ 64 = 18446744073709551616 from rfl] at h1
    have h2 : bitLen (a / 18446744073709551616) ≤ 64 := bitLen_le (by rw [show 2 ^ 64 = 18446744073709551616 from rfl]; omega)
    rw [h1, show (64 : Int) + (bitLen (a / 18446744073709551616) : Int) = ((64 : Nat) : Int) + (bitLen (a / 18446744073709551616) : Int) from rfl, wadd (by omega)]
  · rw [decide_eq_false (show ¬ (wp a).1 > 0 by show ¬ (((a / 18446744073709551616 : Nat)) : Int) > 0; omega), cond_false]
    show (bits_Len64 ((a % 18446744073709551616 : Nat) : Int)).bind _ = _
    rw [Nat.mod_eq_of_lt (by omega), bits_Len64_ok (by omega), Option.bind_some]

end Go.L

namespace Go.L
open Go Go.Pv
set_option maxRecDepth 100000

theorem lrow_succ {α : Type} (n : Nat) (f : Nat → α) : lrow (n + 1) f = lrow n f ++ [f n] := by unfold lrow; rw [List.range_succ, List.map_append]; rfl
theorem roomI_ok {α : Type} {xs ys : List α} (h : xs.length + ys.length ≤ 1000000000) : roomI 1 xs ys = some (xs ++ ys) := by
  unfold roomI
  rw [if_pos (by omega)]

theorem row_w (w : Nat) : rowB (BitVec.ofNat 128 w) = row w.testBit := row_ext fun i hi => by rw [BitVec.getLsbD_ofNat, decide_eq_true hi, Bool.true_and]

/-! ### vectors -/
def vw (w : Int) (x : Nat) : Int × Int × Int × Unit := (w, (wp x).1, (wp x).2.1, ())

/-- a vector's width and value are fit -/
def may (w : Int) (x : Nat) : Bool := decide ((1 ≤ w ∧ w ≤ 128) ∧ (bitLen x : Int) ≤ w)

theorem may_of {w : Int} {x : Nat} (h : may w x = true) : 1 ≤ w ∧ w ≤ 128 ∧ (bitLen x : Int) ≤ w := by
  have := of_decide_eq_true h
  omega

theorem vec_May_ok {w : Int} {x : Nat} (hx : x < 340282366920938463463374607431768211456) : vec_May (vw w x) = some ((may w x, ()), ()) := by
  unfold vec_May vec_width may vw
  simp only [gsome, Option.bind_some]
  by_cases h : 1 ≤ w ∧ w ≤ 128
  · simp only [decide_eq_true (show w ≥ 1 from h.1), decide_eq_true h.2, cond_true, gtrue]
    show ((vec_Word (w, (wp x).1, (wp x).2.1, ())).bind fun r_3 => (word_Len r_3.1.1).bind fun r_4 => some ((decide (r_4.1.1 ≤ w), ()), ())) = _
    unfold vec_Word
    rw [Option.bind_some]
    show ((word_Len (wp x)).bind fun r_4 => some ((decide (r_4.1.1 ≤ w), ()), ())) = _
    rw [word_Len_ok hx, Option.bind_some]
    congr 3
    exact decide_eq_decide.2 ⟨fun h2 => ⟨h, h2⟩, fun h2 => h2.2⟩
  · have e : (bif decide (w ≥ 1) then (bif decide (w ≥ 1) then decide (w ≤ 128) else false) else false) = false := by
      by_cases h : w ≥ 1
      · rw [decide_eq_true h, decide_eq_false (by omega)]; rfl
      · rw [decide_eq_false h]; rfl
    simp only [e, gfalse, cond_false]
    rw [decide_eq_false (fun h2 => h h2.1)]

theorem ref02_May_ok {w : Int} {x : Nat} (hx : x < 340282366920938463463374607431768211456) : ref02_May (vw w x) = some ((may w x, ()), ()) := by
  unfold ref02_May may vw
  simp only [gsome]
  by_cases h : 1 ≤ w ∧ w ≤ 128
  · simp only [decide_eq_true (show w ≥ 1 from h.1), decide_eq_true h.2, cond_true, gtrue]
    rw [of_wp hx, Option.bind_some]
    dsimp only
    rw [ref01_Len_ok, Option.bind_some, BitVec.toNat_ofNat, Nat.mod_eq_of_lt (show x < 2 ^ 128 from hx)]
    congr 3
    exact decide_eq_decide.2 ⟨fun h2 => ⟨h, h2⟩, fun h2 => h2.2⟩
  · have hr : may w x = false := decide_eq_false (fun h2 => h h2.1)
    unfold may at hr
    rw [hr]
    by_cases h1 : w ≥ 1
    · simp only [decide_eq_true h1, cond_true, decide_eq_false (show ¬ w ≤ 128 by omega), gfalse, cond_false]
    · simp only [decide_eq_false h1, cond_false, gfalse]

theorem ref02_Bits_ok {w : Int} {x : Nat} (hx : x < 340282366920938463463374607431768211456) : ref02_Bits (vw w x) = some ((lrow (min w 128).toNat x.testBit, ()), ()) := by
  unfold ref02_Bits vw
  dsimp only
  rw [of_wp hx, Option.bind_some]
  dsimp only
  rw [row_w]
  refine loop_up (fun i => (((lrow i x.testBit, (i : Int), ()), (w, (wp x).1, (wp x).2.1, ()), row x.testBit, ()) : ((List Bool) × Int × Unit) × ((Int × Int × Int × Unit) × (List Bool) × Unit))) (min w 128).toNat ?_ ?_ 0 (by omega)
  · intro i hi
    dsimp only
    unfold ref02_Bits_s0
    simp only [gsome]
    rw [decide_eq_true (show (i : Int) < w by omega), decide_eq_true (show (i : Int) < 128 by omega)]
    simp only [cond_true]
    rw [ck_nat (show i < 128 by omega), row_rd _ (show i < 128 by omega), Option.bind_some, roomI_ok (by rw [lrow_len]; simp only [List.length_cons, List.length_nil]; omega), Option.bind_some, ← lrow_succ, wi64 (by omega)]
  · dsimp only
    unfold ref02_Bits_s0
    simp only [gsome]
    have e : (bif decide ((((min w 128).toNat : Nat) : Int) < w) then (bif decide ((((min w 128).toNat : Nat) : Int) < w) then decide ((((min w 128).toNat : Nat) : Int) < 128) else false) else false) = false := by
      by_cases h : (((min w 128).toNat : Nat) : Int) < w
      · rw [decide_eq_true h, decide_eq_false (by omega)]; rfl
      · rw [decide_eq_false h]; rfl
    rw [e]
    rfl

/-! ### bytes -/
/-- the lowest m bytes of a number, the high ones first -/
def be (n m : Nat) : List Int := lrow m fun j => ((n / 2 ^ (8 * (m - 1 - j)) % 256 : Nat) : Int)

/-- a number's lowest m bits, the high ones first -/
def high (n m : Nat) : List Bool := lrow m fun j => n.testBit (m - 1 - j)

end Go.L

namespace Go.L
open Go Go.Pv
set_option maxRecDepth 100000

/-- the bits of an integer -/
def nat64 (n : Int) : Nat := (n % 18446744073709551616).toNat

theorem nat64_eq (n : Int) : ((nat64 n : Nat) : Int) = n % 18446744073709551616 := by unfold nat64; omega

/-! ### vectors -/
/-- a vector's encoding -/
def enc (w : Int) (x : Nat) : List Int := bif may w x then w :: be x ((w.toNat + 7) / 8) else [0]

theorem take_succ_getD {α : Type} {l : List α} {i : Nat} (d : α) (h : i < l.length) : l.take (i + 1) = l.take i ++ [l.getD i d] := by
  rw [List.take_succ_eq_append_getElem h]
  simp [List.getD, List.getElem?_eq_getElem h]

def okV (v : Int × Int × Int × Unit) : Prop := inR .u64 v.2.1 = true ∧ inR .u64 v.2.2.1 = true

theorem okV_vw {v : Int × Int × Int × Unit} (h : okV v) : v.2.1.toNat * 18446744073709551616 + v.2.2.1.toNat < 340282366920938463463374607431768211456 ∧ v = vw v.1 (v.2.1.toNat * 18446744073709551616 + v.2.2.1.toNat) := by
  have h1 := u64_of h.1
  have h2 := u64_of h.2
  refine ⟨by omega, ?_⟩
  unfold vw wp
  refine Prod.ext rfl (Prod.ext ?_ (Prod.ext ?_ rfl))
  · dsimp only
    omega
  · dsimp only
    omega

theorem map_take {l : List Int} {i : Nat} (h : i < l.length) : (l.take (i + 1)).map IntKind.u8.wrap = (l.take i).map IntKind.u8.wrap ++ [IntKind.u8.wrap (l.getD i 0)] := by
  rw [take_succ_getD 0 h, List.map_append]
  rfl

end Go.L

namespace Go.L
open Go Go.Pv
set_option maxRecDepth 100000

abbrev V4T := Int × Int × Int × Unit
abbrev Ins := Int × Int × Int × V4T × Unit
abbrev Stp := (V4T × Unit) ⊕ ((Int × Int × Int × Unit) ⊕ ((Int × Int × Unit) ⊕ ((Int × Int × Unit) ⊕ ((Int × Int × Unit) ⊕ ((Int × Int × Int × Unit) ⊕ ((Int × Int × Unit) ⊕ ((Int × Unit) ⊕ ((Int × Int × Unit) ⊕ ((Int × Int × Unit) ⊕ ((Unit) ⊕ Unit))))))))))
/-- an operation: its name, what it takes and puts, how many numbers it names, from and to, its type -/
abbrev Rw := List Int × Int × Int × Int × Int × Int × Int × Int × Nat

def tabL : List Rw := [
  ([112, 117, 115, 104], 0, 1, 0, 0, 0, 0, 0, 0),
  ([102, 105, 101, 108, 100], 0, 1, 2, 0, 31, 0, 15, 1),
  ([109, 101, 116, 97], 0, 1, 1, 0, 23, 0, 0, 2),
  ([112, 97, 114, 97, 109], 0, 1, 1, 0, 7, 0, 0, 2),
  ([118, 97, 108, 105, 100], 0, 1, 1, 0, 31, 0, 0, 8),
  ([114, 101, 103], 1, 1, 1, 0, 7, 0, 0, 2),
  ([110, 111, 116], 1, 1, 0, 0, 0, 0, 0, 3),
  ([110, 101, 103], 1, 1, 0, 0, 0, 0, 0, 3),
  ([115, 104, 108], 1, 1, 1, 0, 128, 0, 0, 3),
  ([115, 104, 114], 1, 1, 1, 0, 128, 0, 0, 3),
  ([115, 108, 105, 99, 101], 1, 1, 2, 0, 127, 0, 127, 4),
  ([99, 97, 115, 116], 1, 1, 1, 1, 128, 0, 0, 3),
  ([97, 100, 100], 2, 1, 0, 0, 0, 0, 0, 7),
  ([115, 117, 98], 2, 1, 0, 0, 0, 0, 0, 7),
  ([97, 100, 100, 45, 115, 97, 116], 2, 1, 0, 0, 0, 0, 0, 7),
  ([115, 117, 98, 45, 115, 97, 116], 2, 1, 0, 0, 0, 0, 0, 7),
  ([97, 110, 100], 2, 1, 0, 0, 0, 0, 0, 7),
  ([111, 114], 2, 1, 0, 0, 0, 0, 0, 7),
  ([120, 111, 114], 2, 1, 0, 0, 0, 0, 0, 7),
  ([99, 97, 116], 2, 1, 0, 0, 0, 0, 0, 7),
  ([101, 113], 2, 1, 0, 0, 0, 0, 0, 7),
  ([108, 101, 115, 115], 2, 1, 0, 0, 0, 0, 0, 7),
  ([112, 117, 116, 45, 102, 105, 101, 108, 100], 1, 0, 2, 0, 31, 0, 15, 1),
  ([112, 117, 116, 45, 109, 101, 116, 97], 1, 0, 1, 0, 23, 0, 0, 2),
  ([112, 117, 116, 45, 114, 101, 103], 2, 0, 1, 0, 7, 0, 0, 2),
  ([115, 104, 111, 119], 0, 0, 1, 0, 31, 0, 0, 8),
  ([104, 105, 100, 101], 0, 0, 1, 0, 31, 0, 0, 8),
  ([112, 117, 115, 104, 45, 104, 101, 97, 100], 0, 0, 2, 0, 15, 1, 4, 5),
  ([112, 111, 112, 45, 104, 101, 97, 100], 0, 0, 2, 0, 15, 1, 4, 5),
  ([99, 111, 117, 110, 116], 1, 0, 1, 0, 7, 0, 0, 2),
  ([109, 101, 116, 101, 114], 1, 1, 1, 0, 7, 0, 0, 2),
  ([106, 117, 109, 112], 0, 0, 1, 0, 64, 0, 0, 9),
  ([106, 117, 109, 112, 45, 122, 101, 114, 111], 1, 0, 1, 0, 64, 0, 0, 9),
  ([106, 117, 109, 112, 45, 103, 111, 110, 101], 0, 0, 2, 0, 31, 0, 64, 6),
  ([115, 116, 111, 112], 0, 0, 0, 0, 0, 0, 0, 10)]
def tyN (n : Nat) : List Int := [[80, 117, 115, 104], [80, 108, 97, 99, 101], [67, 101, 108, 108], [79, 110, 101], [80, 97, 114, 116], [72, 101, 97, 100, 115], [71, 111, 110, 101], [84, 119, 111], [83, 108, 111, 116], [74, 117, 109, 112], [83, 116, 111, 112]].getD n []
def rowK (k : Nat) : Rw := tabL.getD k ([], 0, 0, 0, 0, 0, 0, 0, 0)
abbrev Rw.name (r : Rw) := r.1
abbrev Rw.takes (r : Rw) := r.2.1
abbrev Rw.puts (r : Rw) := r.2.2.1
abbrev Rw.many (r : Rw) := r.2.2.2.1
abbrev Rw.a0 (r : Rw) := r.2.2.2.2.1
abbrev Rw.a1 (r : Rw) := r.2.2.2.2.2.1
abbrev Rw.b0 (r : Rw) := r.2.2.2.2.2.2.1
abbrev Rw.b1 (r : Rw) := r.2.2.2.2.2.2.2.1
abbrev Rw.ty (r : Rw) := r.2.2.2.2.2.2.2.2
def rowR (r : Rw) : List Int × Int × Int × Int × List Int × List Int × List Int × Unit := (r.name, r.takes, r.puts, r.many, [r.a0, r.a1], [r.b0, r.b1], tyN r.ty, ())
def shpR (r : Rw) : Bool × Bool × Int × Int × Int × Int × Int × Int × Unit := (decide (1 ≤ r.many), decide (r.many = 2), r.a0, r.a1, r.b0, r.b1, r.takes, r.puts, ())

theorem ops35 {k : Nat} (hk : k < 35) : k = 0 ∨ k = 1 ∨ k = 2 ∨ k = 3 ∨ k = 4 ∨ k = 5 ∨ k = 6 ∨ k = 7 ∨ k = 8 ∨ k = 9 ∨ k = 10 ∨ k = 11 ∨ k = 12 ∨ k = 13 ∨ k = 14 ∨ k = 15 ∨ k = 16 ∨ k = 17 ∨ k = 18 ∨ k = 19 ∨ k = 20 ∨ k = 21 ∨ k = 22 ∨ k = 23 ∨ k = 24 ∨ k = 25 ∨ k = 26 ∨ k = 27 ∨ k = 28 ∨ k = 29 ∨ k = 30 ∨ k = 31 ∨ k = 32 ∨ k = 33 ∨ k = 34 := by omega

theorem table_is : ref09_Table = some ((tabL.map rowR, ()), ()) := rfl
theorem names_is : code_names = some ((tabL.map Rw.name, ()), ()) := rfl

theorem rowK_rd {k : Nat} (hk : k < 35) : rdI (tabL.map rowR) (k : Int) = some (rowR (rowK k)) := by
  rcases ops35 hk with rfl | rfl | rfl | rfl | rfl | rfl | rfl | rfl | rfl | rfl | rfl | rfl | rfl | rfl | rfl | rfl | rfl | rfl | rfl | rfl | rfl | rfl | rfl | rfl | rfl | rfl | rfl | rfl | rfl | rfl | rfl | rfl | rfl | rfl | rfl <;> rfl

theorem nameK_rd {k : Nat} (hk : k < 35) : rdI (tabL.map Rw.name) (k : Int) = some (rowK k).name := by
  rcases ops35 hk with rfl | rfl | rfl | rfl | rfl | rfl | rfl | rfl | rfl | rfl | rfl | rfl | rfl | rfl | rfl | rfl | rfl | rfl | rfl | rfl | rfl | rfl | rfl | rfl | rfl | rfl | rfl | rfl | rfl | rfl | rfl | rfl | rfl | rfl | rfl <;> rfl

theorem shape_is {k : Nat} (hk : k < 35) : code_shapeOf (k : Int) = some ((shpR (rowK k), ()), ()) := by
  rcases ops35 hk with rfl | rfl | rfl | rfl | rfl | rfl | rfl | rfl | rfl | rfl | rfl | rfl | rfl | rfl | rfl | rfl | rfl | rfl | rfl | rfl | rfl | rfl | rfl | rfl | rfl | rfl | rfl | rfl | rfl | rfl | rfl | rfl | rfl | rfl | rfl <;> rfl

theorem name_slice {k : Nat} (hk : k < 35) : decide ((rowK k).name = [115, 108, 105, 99, 101]) = decide ((k : Int) = 10) := by
  rcases ops35 hk with rfl | rfl | rfl | rfl | rfl | rfl | rfl | rfl | rfl | rfl | rfl | rfl | rfl | rfl | rfl | rfl | rfl | rfl | rfl | rfl | rfl | rfl | rfl | rfl | rfl | rfl | rfl | rfl | rfl | rfl | rfl | rfl | rfl | rfl | rfl <;> rfl

theorem name_push {k : Nat} (hk : k < 35) : decide ((rowK k).name = [112, 117, 115, 104]) = decide ((k : Int) = 0) := by
  rcases ops35 hk with rfl | rfl | rfl | rfl | rfl | rfl | rfl | rfl | rfl | rfl | rfl | rfl | rfl | rfl | rfl | rfl | rfl | rfl | rfl | rfl | rfl | rfl | rfl | rfl | rfl | rfl | rfl | rfl | rfl | rfl | rfl | rfl | rfl | rfl | rfl <;> rfl

def inI (n lo hi : Int) : Bool := decide (lo ≤ n) && decide (n ≤ hi)
def vz (v : V4T) : Bool := decide (v.1 = 0) && (decide (v.2.1 = 0) && decide (v.2.2.1 = 0))
def mayB (v : V4T) : Bool := may v.1 (v.2.1.toNat * 18446744073709551616 + v.2.2.1.toNat)
def knownB (n : Int) : Bool := decide (0 ≤ n) && decide (n < 35)

/-- what is wrong with an instruction -/
def mayI (x : Ins) : Int := bif !knownB x.1 then 10 else
  bif (!inI x.2.1 (rowK x.1.toNat).a0 (rowK x.1.toNat).a1 || !inI x.2.2.1 (rowK x.1.toNat).b0 (rowK x.1.toNat).b1 || (decide (x.1 = 10) && decide (x.2.2.1 > x.2.1))) then 7 else
  bif decide (x.1 = 0) then (bif mayB x.2.2.2.1 then 0 else 1) else bif vz x.2.2.2.1 then 0 else 1

theorem known_ok (n : Int) : code_known n = some ((knownB n, ()), ()) := by
  unfold code_known knownB
  simp only [gsome, ge_iff_le]
  cases decide (0 ≤ n) <;> rfl

theorem within9 (n lo hi : Int) : code_within n lo hi = some ((inI n lo hi, ()), ()) := by
  unfold code_within inI
  simp only [gsome, ge_iff_le]
  cases decide (lo ≤ n) <;> rfl

theorem mayB_ok {v : V4T} (h : okV v) : vec_May v = some ((mayB v, ()), ()) ∧ ref02_May v = some ((mayB v, ()), ()) := by
  obtain ⟨h1, h2⟩ := okV_vw h
  unfold mayB
  generalize v.2.1.toNat * 18446744073709551616 + v.2.2.1.toNat = x at h1 h2
  constructor
  · rw [h2]; exact vec_May_ok h1
  · rw [h2]; exact ref02_May_ok h1

theorem known_of {n : Int} (h : knownB n = true) : ∃ k : Nat, n = (k : Int) ∧ k < 35 := by
  unfold knownB at h
  simp only [Bool.and_eq_true, decide_eq_true_eq] at h
  exact ⟨n.toNat, by omega, by omega⟩

theorem codeMay_ok {x : Ins} (hv : okV x.2.2.2.1) : code_May x = some ((mayI x, ()), ()) := by
  obtain ⟨n, a, b, v, _⟩ := x
  unfold code_May mayI
  rw [known_ok, Option.bind_some]
  dsimp only at hv ⊢
  have hz : ((v.1, v.2.1, v.2.2.1, ()) : V4T) = v := rfl
  cases hk : knownB n with
  | false => rfl
  | true =>
    obtain ⟨k, rfl, hk35⟩ := known_of hk
    rw [shape_is hk35]
    have hm := (mayB_ok hv).1
    simp only [Bool.not_true, cond_false, Option.bind_some, shpR, within9, Int.toNat_natCast, hz]
    generalize rowK k = r
    unfold vz
    cases hh1 : inI a r.a0 r.a1 <;> try simp only [hh1, *, within9, hm, gtrue, gfalse, Bool.not_true, Bool.not_false, cond_true, cond_false, Option.bind_some, Bool.or_true, Bool.true_or, Bool.or_false, Bool.false_or, Bool.true_and, Bool.false_and, Bool.and_true, Bool.and_false]
    all_goals (cases hh2 : inI b r.b0 r.b1 <;> try simp only [hh2, *, within9, hm, gtrue, gfalse, Bool.not_true, Bool.not_false, cond_true, cond_false, Option.bind_some, Bool.or_true, Bool.true_or, Bool.or_false, Bool.false_or, Bool.true_and, Bool.false_and, Bool.and_true, Bool.and_false])
    all_goals (cases hh3 : decide ((k : Int) = 10) <;> try simp only [hh3, *, hm, gtrue, gfalse, Bool.not_true, Bool.not_false, cond_true, cond_false, Option.bind_some, Bool.or_true, Bool.true_or, Bool.or_false, Bool.false_or, Bool.true_and, Bool.false_and, Bool.and_true, Bool.and_false])
    all_goals (cases hh4 : decide (b > a) <;> try simp only [hh4, *, hm, gtrue, gfalse, Bool.not_true, Bool.not_false, cond_true, cond_false, Option.bind_some, Bool.or_true, Bool.true_or, Bool.or_false, Bool.false_or, Bool.true_and, Bool.false_and, Bool.and_true, Bool.and_false])
    all_goals (cases hh5 : decide ((k : Int) = 0) <;> try simp only [hh5, *, hm, gtrue, gfalse, Bool.not_true, Bool.not_false, cond_true, cond_false, Option.bind_some, Bool.or_true, Bool.true_or, Bool.or_false, Bool.false_or, Bool.true_and, Bool.false_and, Bool.and_true, Bool.and_false])
    all_goals (cases hh6 : mayB v <;> try simp only [hh6, *, gtrue, gfalse, Bool.not_true, Bool.not_false, cond_true, cond_false, Option.bind_some, Bool.or_true, Bool.true_or, Bool.or_false, Bool.false_or, Bool.true_and, Bool.false_and, Bool.and_true, Bool.and_false])
    all_goals (cases hz9 : (decide (v.1 = 0) && (decide (v.2.1 = 0) && decide (v.2.2.1 = 0))) <;> try simp only [hz9, *, gtrue, gfalse, Bool.not_true, Bool.not_false, cond_true, cond_false, Option.bind_some])

theorem refMay_ok {x : Ins} (hv : okV x.2.2.2.1) : ref09_May x = some ((mayI x, ()), ()) := by
  obtain ⟨n, a, b, v, _⟩ := x
  unfold ref09_May mayI
  dsimp only at hv ⊢
  have hz : ((v.1, v.2.1, v.2.2.1, ()) : V4T) = v := rfl
  have e0 : decide (n < 0) = !decide (0 ≤ n) := by rw [← decide_not]; exact decide_eq_decide.2 (by omega)
  have e1 : decide (n > 34) = !decide (n < 35) := by rw [← decide_not]; exact decide_eq_decide.2 (by omega)
  cases hk : knownB n with
  | false =>
    unfold knownB at hk
    cases h0 : decide (0 ≤ n) with
    | false => simp only [e0, h0, gtrue, gfalse, Bool.not_true, Bool.not_false, cond_true, cond_false, Option.bind_some, Bool.or_true, Bool.true_or, Bool.or_false, Bool.false_or, Bool.true_and, Bool.false_and, Bool.and_true, Bool.and_false]
    | true =>
      rw [h0, Bool.true_and] at hk
      simp only [e0, e1, h0, hk, gtrue, gfalse, Bool.not_true, Bool.not_false, cond_true, cond_false, Option.bind_some, Bool.or_true, Bool.true_or, Bool.or_false, Bool.false_or, Bool.true_and, Bool.false_and, Bool.and_true, Bool.and_false]
  | true =>
    obtain ⟨k, rfl, hk35⟩ := known_of hk
    unfold knownB at hk
    rw [Bool.and_eq_true] at hk
    have hl : (tabL.map rowR).length = 35 := rfl
    have c0 : Option.map (fun _ => (0 : Int)) (ckI 0 2) = some 0 := rfl
    have c1 : Option.map (fun _ => (1 : Int)) (ckI 1 2) = some 1 := rfl
    have ck : Option.map (fun _ => (k : Int)) (ckI (k : Int) 35) = some (k : Int) := by
      unfold ckI
      rw [if_pos ⟨by omega, by omega⟩]; rfl
    have rd0 : ∀ p q : Int, rdI [p, q] 0 = some p := fun _ _ => rfl
    have rd1 : ∀ p q : Int, rdI [p, q] 1 = some q := fun _ _ => rfl
    have hm := (mayB_ok hv).2
    have ns := name_slice hk35
    have np := name_push hk35
    simp only [e0, e1, hk.1, hk.2, table_is, hl, ck, rowK_rd hk35, rowR, c0, c1, rd0, rd1, Int.toNat_natCast, hz, gtrue, gfalse, Bool.not_true, Bool.not_false, cond_true, cond_false, Option.bind_some, Bool.or_true, Bool.true_or, Bool.or_false, Bool.false_or, Bool.true_and, Bool.false_and, Bool.and_true, Bool.and_false]
    generalize rowK k = r at ns np
    have f1 : decide (a < r.a0) = !decide (r.a0 ≤ a) := by rw [← decide_not]; exact decide_eq_decide.2 (by omega)
    have f2 : decide (a > r.a1) = !decide (a ≤ r.a1) := by rw [← decide_not]; exact decide_eq_decide.2 (by omega)
    have f3 : decide (b < r.b0) = !decide (r.b0 ≤ b) := by rw [← decide_not]; exact decide_eq_decide.2 (by omega)
    have f4 : decide (b > r.b1) = !decide (b ≤ r.b1) := by rw [← decide_not]; exact decide_eq_decide.2 (by omega)
    have f5 : decide (b > a) = decide (a < b) := rfl
    have f6 : decide (a < b) = decide (b > a) := rfl
    unfold inI vz
    rw [f1]
    cases hh7 : decide (r.a0 ≤ a) <;> try simp only [hh7, f2, f3, f4, f5, ns, np, c0, c1, rd0, rd1, hm, gtrue, gfalse, Bool.not_true, Bool.not_false, cond_true, cond_false, Option.bind_some, Bool.or_true, Bool.true_or, Bool.or_false, Bool.false_or, Bool.true_and, Bool.false_and, Bool.and_true, Bool.and_false]
    all_goals (cases hh8 : decide (a ≤ r.a1) <;> try simp only [hh8, hh7, f2, f3, f4, f5, ns, np, c0, c1, rd0, rd1, hm, gtrue, gfalse, Bool.not_true, Bool.not_false, cond_true, cond_false, Option.bind_some, Bool.or_true, Bool.true_or, Bool.or_false, Bool.false_or, Bool.true_and, Bool.false_and, Bool.and_true, Bool.and_false])
    all_goals (cases hh9 : decide (r.b0 ≤ b) <;> try simp only [hh9, hh7, hh8, f2, f3, f4, f5, ns, np, c0, c1, rd0, rd1, hm, gtrue, gfalse, Bool.not_true, Bool.not_false, cond_true, cond_false, Option.bind_some, Bool.or_true, Bool.true_or, Bool.or_false, Bool.false_or, Bool.true_and, Bool.false_and, Bool.and_true, Bool.and_false])
    all_goals (cases hh10 : decide (b ≤ r.b1) <;> try simp only [hh10, hh7, hh8, hh9, f2, f3, f4, f5, ns, np, c0, c1, rd0, rd1, hm, gtrue, gfalse, Bool.not_true, Bool.not_false, cond_true, cond_false, Option.bind_some, Bool.or_true, Bool.true_or, Bool.or_false, Bool.false_or, Bool.true_and, Bool.false_and, Bool.and_true, Bool.and_false])
    all_goals (cases hh11 : decide ((k : Int) = 10) <;> try simp only [hh11, hh7, hh8, hh9, hh10, f2, f3, f4, f5, ns, np, c0, c1, rd0, rd1, hm, gtrue, gfalse, Bool.not_true, Bool.not_false, cond_true, cond_false, Option.bind_some, Bool.or_true, Bool.true_or, Bool.or_false, Bool.false_or, Bool.true_and, Bool.false_and, Bool.and_true, Bool.and_false])
    all_goals (cases decide (a < b) <;> try simp only [f5, hm, gtrue, gfalse, Bool.not_true, Bool.not_false, cond_true, cond_false, Option.bind_some, Bool.or_true, Bool.true_or, Bool.or_false, Bool.false_or, Bool.true_and, Bool.false_and, Bool.and_true, Bool.and_false])
    all_goals (cases hh12 : decide ((k : Int) = 0) <;> try simp only [hh12, hh7, hh8, hh9, hh10, hh11, f2, f3, f4, f5, ns, np, c0, c1, rd0, rd1, hm, gtrue, gfalse, Bool.not_true, Bool.not_false, cond_true, cond_false, Option.bind_some, Bool.or_true, Bool.true_or, Bool.or_false, Bool.false_or, Bool.true_and, Bool.false_and, Bool.and_true, Bool.and_false])
    all_goals (cases hh13 : mayB v <;> try simp only [hh13, hh7, hh8, hh9, hh10, hh11, hh12, f2, f3, f4, f5, ns, np, c0, c1, rd0, rd1, gtrue, gfalse, Bool.not_true, Bool.not_false, cond_true, cond_false, Option.bind_some, Bool.or_true, Bool.true_or, Bool.or_false, Bool.false_or, Bool.true_and, Bool.false_and, Bool.and_true, Bool.and_false])
    all_goals (cases hz9 : (decide (v.1 = 0) && (decide (v.2.1 = 0) && decide (v.2.2.1 = 0))) <;> try simp only [hz9, hh7, hh8, hh9, hh10, hh11, hh12, hh13,  np, gtrue, gfalse, Bool.not_true, Bool.not_false, cond_true, cond_false, Option.bind_some])

end Go.L

namespace Go.L
open Go Go.Pv
set_option maxRecDepth 100000

/-- the step of a type -/
def mkS (t : Nat) (o a b : Int) (v : V4T) : Stp := match t with
  | 0 => .inl (v, ())
  | 1 => .inr (.inl (o, a, b, ()))
  | 2 => .inr (.inr (.inl (o, a, ())))
  | 3 => .inr (.inr (.inr (.inl (o, a, ()))))
  | 4 => .inr (.inr (.inr (.inr (.inl (a, b, ())))))
  | 5 => .inr (.inr (.inr (.inr (.inr (.inl (o, a, b, ()))))))
  | 6 => .inr (.inr (.inr (.inr (.inr (.inr (.inl (a, b, ())))))))
  | 7 => .inr (.inr (.inr (.inr (.inr (.inr (.inr (.inl (o, ()))))))))
  | 8 => .inr (.inr (.inr (.inr (.inr (.inr (.inr (.inr (.inl (o, a, ())))))))))
  | 9 => .inr (.inr (.inr (.inr (.inr (.inr (.inr (.inr (.inr (.inl (o, a, ()))))))))))
  | 10 => .inr (.inr (.inr (.inr (.inr (.inr (.inr (.inr (.inr (.inr (.inl ()))))))))))
  | _ => .inr (.inr (.inr (.inr (.inr (.inr (.inr (.inr (.inr (.inr (.inr ()))))))))))
/-- a step's instruction -/
def plS (t : Nat) (o a b : Int) (v : V4T) : Ins := match t with
  | 0 => (0, 0, 0, v, ())
  | 1 => (o, a, b, (0, 0, 0, ()), ())
  | 4 => (10, a, b, (0, 0, 0, ()), ())
  | 5 => (o, a, b, (0, 0, 0, ()), ())
  | 6 => (33, a, b, (0, 0, 0, ()), ())
  | 7 => (o, 0, 0, (0, 0, 0, ()), ())
  | 10 => (34, 0, 0, (0, 0, 0, ()), ())
  | _ => (o, a, 0, (0, 0, 0, ()), ())
def nilS : Stp := .inr (.inr (.inr (.inr (.inr (.inr (.inr (.inr (.inr (.inr (.inr ()))))))))))

theorem ops11 {t : Nat} (h : t < 11) : t = 0 ∨ t = 1 ∨ t = 2 ∨ t = 3 ∨ t = 4 ∨ t = 5 ∨ t = 6 ∨ t = 7 ∨ t = 8 ∨ t = 9 ∨ t = 10 := by omega

theorem ty_lt {k : Nat} (hk : k < 35) : (rowK k).ty < 11 := by
  rcases ops35 hk with rfl | rfl | rfl | rfl | rfl | rfl | rfl | rfl | rfl | rfl | rfl | rfl | rfl | rfl | rfl | rfl | rfl | rfl | rfl | rfl | rfl | rfl | rfl | rfl | rfl | rfl | rfl | rfl | rfl | rfl | rfl | rfl | rfl | rfl | rfl <;> decide

theorem known_may {x : Ins} (h : mayI x = 0) : knownB x.1 = true := by
  unfold mayI at h
  cases hk : knownB x.1 with
  | true => rfl
  | false =>
    rw [hk] at h
    simp at h

theorem make_ok {x : Ins} (hv : okV x.2.2.2.1) : code_Make x = some ((if mayI x = 0 then (mkS (rowK x.1.toNat).ty x.1 x.2.1 x.2.2.1 x.2.2.2.1, 0, ()) else (nilS, mayI x, ())), ()) := by
  unfold code_Make
  have hz : ((x.1, x.2.1, x.2.2.1, (x.2.2.2.1.1, x.2.2.2.1.2.1, x.2.2.2.1.2.2.1, ()), ()) : Ins) = x := rfl
  rw [hz, codeMay_ok hv, Option.bind_some]
  by_cases hm : mayI x = 0
  · rw [if_pos hm]
    dsimp only
    rw [hm]
    obtain ⟨k, hk, hk35⟩ := known_of (known_may hm)
    obtain ⟨n, a, b, v, _⟩ := x
    dsimp only at hk
    subst hk
    rw [Int.toNat_natCast]
    rcases ops35 hk35 with rfl | rfl | rfl | rfl | rfl | rfl | rfl | rfl | rfl | rfl | rfl | rfl | rfl | rfl | rfl | rfl | rfl | rfl | rfl | rfl | rfl | rfl | rfl | rfl | rfl | rfl | rfl | rfl | rfl | rfl | rfl | rfl | rfl | rfl | rfl <;> rfl
  · rw [if_neg hm]
    dsimp only
    rw [decide_eq_false hm]
    rfl

theorem plain_ok {t : Nat} (h : t < 11) (o a b : Int) (v : V4T) : code_plain_f6b (mkS t o a b v) = some ((plS t o a b v, ()), ()) := by
  rcases ops11 h with rfl | rfl | rfl | rfl | rfl | rfl | rfl | rfl | rfl | rfl | rfl <;> rfl

theorem alike_ok {t u : Nat} (h : t < 11) (h' : u < 11) (o a b : Int) (v : V4T) (o' a' b' : Int) (v' : V4T) : code_alike_b2d (mkS t o a b v) (mkS u o' a' b' v') = some ((decide (t = u), ()), ()) := by
  rcases ops11 h with rfl | rfl | rfl | rfl | rfl | rfl | rfl | rfl | rfl | rfl | rfl <;> rcases ops11 h' with rfl | rfl | rfl | rfl | rfl | rfl | rfl | rfl | rfl | rfl | rfl <;> rfl

theorem not_nil {t : Nat} (h : t < 11) (o a b : Int) (v : V4T) : isNil11 (mkS t o a b v) = false := by
  rcases ops11 h with rfl | rfl | rfl | rfl | rfl | rfl | rfl | rfl | rfl | rfl | rfl <;> rfl

def insZ : Ins := (0, 0, 0, (0, 0, 0, ()), ())

theorem okV_pl {t : Nat} (h : t < 11) {o a b : Int} {v : V4T} (hv : okV v) : okV (plS t o a b v).2.2.2.1 := by
  rcases ops11 h with rfl | rfl | rfl | rfl | rfl | rfl | rfl | rfl | rfl | rfl | rfl
  · exact hv
  all_goals exact ⟨rfl, rfl⟩

theorem Plain_ok {t : Nat} (h : t < 11) (o a b : Int) {v : V4T} (hv : okV v) : code_Plain_f6b (mkS t o a b v) = some ((if mayI (plS t o a b v) = 0 ∧ (rowK (plS t o a b v).1.toNat).ty = t then (plS t o a b v, true, ()) else (insZ, false, ())), ()) := by
  unfold code_Plain_f6b
  rw [not_nil h, cond_false, plain_ok h, Option.bind_some]
  dsimp only
  rw [make_ok (okV_pl h hv), Option.bind_some]
  dsimp only
  generalize plS t o a b v = y
  by_cases hm : mayI y = 0
  · obtain ⟨k, hk, hk35⟩ := known_of (known_may hm)
    have hty : (rowK y.1.toNat).ty < 11 := by rw [hk, Int.toNat_natCast]; exact ty_lt hk35
    rw [if_pos hm]
    simp only [decide_true, Bool.not_true, Bool.not_false, gtrue, Option.bind_some, alike_ok h hty, cond_false]
    by_cases ht : (rowK y.1.toNat).ty = t
    · rw [if_pos ⟨hm, ht⟩, decide_eq_true ht.symm]
      rfl
    · rw [if_neg (fun q => ht q.2), decide_eq_false (fun q => ht q.symm)]
      rfl
  · rw [if_neg hm, if_neg (fun q => hm q.1)]
    simp only [decide_eq_false hm, Bool.not_true, Bool.not_false, gfalse, cond_true]
    rfl

/-- what a type says of an operation's numbers -/
def okRow (k : Nat) (r : Rw) : Bool :=
  match r.ty with
  | 0 => decide (k = 0) && decide (r.a0 = 0 ∧ r.a1 = 0 ∧ r.b0 = 0 ∧ r.b1 = 0)
  | 1 => decide (k ≠ 0)
  | 4 => decide (k = 10)
  | 5 => decide (k ≠ 0)
  | 6 => decide (k = 33)
  | 7 => decide (k ≠ 0) && decide (r.a0 = 0 ∧ r.a1 = 0 ∧ r.b0 = 0 ∧ r.b1 = 0)
  | 10 => decide (k = 34) && decide (r.a0 = 0 ∧ r.a1 = 0 ∧ r.b0 = 0 ∧ r.b1 = 0)
  | _ => decide (k ≠ 0) && decide (r.b0 = 0 ∧ r.b1 = 0)

theorem okRow_ok {k : Nat} (hk : k < 35) : okRow k (rowK k) = true := by
  rcases ops35 hk with rfl | rfl | rfl | rfl | rfl | rfl | rfl | rfl | rfl | rfl | rfl | rfl | rfl | rfl | rfl | rfl | rfl | rfl | rfl | rfl | rfl | rfl | rfl | rfl | rfl | rfl | rfl | rfl | rfl | rfl | rfl | rfl | rfl | rfl | rfl <;> decide

theorem vz_eq {v : V4T} (h : vz v = true) : v = (0, 0, 0, ()) := by
  obtain ⟨p, q, r, _⟩ := v
  unfold vz at h
  simp only [Bool.and_eq_true, decide_eq_true_eq] at h
  obtain ⟨rfl, rfl, rfl⟩ := h
  rfl

theorem may_facts {k : Nat} {a b : Int} {v : V4T} (h : mayI ((k : Int), a, b, v, ()) = 0) : k < 35 ∧ ((rowK k).a0 ≤ a ∧ a ≤ (rowK k).a1) ∧ ((rowK k).b0 ≤ b ∧ b ≤ (rowK k).b1) ∧ (k = 0 ∨ v = (0, 0, 0, ())) := by
  have hk := known_may h
  obtain ⟨k', e, hk35⟩ := known_of hk
  have e : (k : Int) = (k' : Int) := e
  have e : k = k' := by omega
  subst e
  refine ⟨hk35, ?_⟩
  unfold mayI at h
  dsimp only at h hk
  rw [hk, Int.toNat_natCast, Bool.not_true, cond_false] at h
  cases hA : inI a (rowK k).a0 (rowK k).a1 with
  | false => rw [hA] at h; exact absurd h (by simp)
  | true =>
    cases hB : inI b (rowK k).b0 (rowK k).b1 with
    | false => rw [hA, hB] at h; exact absurd h (by simp)
    | true =>
      rw [hA, hB] at h
      simp only [Bool.not_true, Bool.false_or] at h
      unfold inI at hA hB
      simp only [Bool.and_eq_true, decide_eq_true_eq] at hA hB
      refine ⟨hA, hB, ?_⟩
      by_cases h0 : k = 0
      · exact .inl h0
      · right
        cases h10 : (decide ((k : Int) = 10) && decide (b > a)) with
        | true => rw [h10] at h; exact absurd h (by simp)
        | false =>
          rw [h10, cond_false, decide_eq_false (show ¬ (k : Int) = 0 by omega), cond_false] at h
          cases hz : vz v with
          | true => exact vz_eq hz
          | false => rw [hz] at h; exact absurd h (by simp)

/-- the instruction of an instruction's step is it again -/
theorem back_eq {k : Nat} {a b : Int} {v : V4T} (h : mayI ((k : Int), a, b, v, ()) = 0) : plS (rowK k).ty (k : Int) a b v = ((k : Int), a, b, v, ()) := by
  obtain ⟨hk, ⟨a1, a2⟩, ⟨b1, b2⟩, hv⟩ := may_facts h
  have ho := okRow_ok hk
  have ht := ty_lt hk
  generalize rowK k = r at *
  unfold okRow at ho
  generalize hty : r.ty = t at *
  rcases ops11 ht with rfl | rfl | rfl | rfl | rfl | rfl | rfl | rfl | rfl | rfl | rfl
  all_goals simp only [Bool.and_eq_true, decide_eq_true_eq] at ho
  all_goals unfold plS
  · obtain ⟨h0, h1, h2, h3, h4⟩ := ho
    subst h0
    have e1 : a = 0 := by omega
    have e2 : b = 0 := by omega
    subst e1 e2
    rfl
  all_goals (have hv : v = (0, 0, 0, ()) := by rcases hv with hv | hv; omega; exact hv)
  all_goals subst hv
  · rfl
  · have e2 : b = 0 := by omega
    subst e2; rfl
  · have e2 : b = 0 := by omega
    subst e2; rfl
  · subst ho; rfl
  · rfl
  · subst ho; rfl
  · have e1 : a = 0 := by omega
    have e2 : b = 0 := by omega
    subst e1 e2; rfl
  · have e2 : b = 0 := by omega
    subst e2; rfl
  · have e2 : b = 0 := by omega
    subst e2; rfl
  · have e1 : a = 0 := by omega
    have e2 : b = 0 := by omega
    have e3 : k = 34 := ho.1
    subst e3
    subst e1 e2
    rfl

end Go.L

namespace Go.L
open Go Go.Pv
set_option maxRecDepth 100000

/-- what a letter counts; 16 where it is no digit -/
def dig (c : Int) : Nat := if 48 ≤ c ∧ c ≤ 57 then (c - 48).toNat else if 97 ≤ c ∧ c ≤ 102 then (c - 87).toNat else if 65 ≤ c ∧ c ≤ 70 then (c - 55).toNat else 16

/-- the number that letters spell; none where one of them is no digit -/
def val (b : Nat) : List Int → Nat → Option Nat
  | [], n => some n
  | c :: l, n => if b ≤ dig c then none else val b l (n * b + dig c)

/-- a word and a code: 4 for a letter that is no digit, 7 for too much -/
def read (b : Nat) (l : List Int) (n : Nat) : Nat × Int := match val b l n with
  | none => (0, 4)
  | some m => if 340282366920938463463374607431768211456 ≤ m then (0, 7) else (m, 0)

theorem u64_small {n : Nat} (h : n < 1000) : IntKind.u64.wrap (n : Int) = (n : Int) := wu64 (by omega)
theorem wp_small {n : Nat} (h : n < 1000) : ((0, (n : Int), ()) : Int × Int × Unit) = wp n := by
  unfold wp
  rw [Nat.div_eq_of_lt (by omega), Nat.mod_eq_of_lt (by omega)]
  rfl

/-! ### the reference's -/
theorem zeros : ([false, false, false, false, false, false, false, false, false, false, false, false, false, false, false, false, false, false, false, false, false, false, false, false, false, false, false, false, false, false, false, false, false, false, false, false, false, false, false, false, false, false, false, false, false, false, false, false, false, false, false, false, false, false, false, false, false, false, false, false, false, false, false, false, false, false, false, false, false, false, false, false, false, false, false, false, false, false, false, false, false, false, false, false, false, false, false, false, false, false, false, false, false, false, false, false, false, false, false, false, false, false, false, false, false, false, false, false, false, false, false, false, false, false, false, false, false, false, false, false, false, false, false, false, false, false, false, false] : List Bool) = rowB (BitVec.ofNat 128 0) := by decide

end Go.L

namespace Go.L
open Go Go.Pv
set_option maxRecDepth 100000

/-- capital letters -/
def up (c : Int) : Int := if 97 ≤ c then c - 32 else c

theorem text_len {b w : Nat} (hb : 2 ≤ b) (hw : w < 340282366920938463463374607431768211456) : (text b w).length ≤ 128 := by
  have := D_len hb 127 w hw
  unfold text
  rw [List.length_reverse, List.length_map]
  exact this

end Go.L

namespace Go.L
open Go Go.Pv
set_option maxRecDepth 100000

theorem vec_Word_ok (w : Int) (x : Nat) : vec_Word (vw w x) = some ((wp x, ()), ()) := rfl
theorem vec_row_ok (w : Int) (x : Nat) : vec_row w (wp x) = some ((vw w x, ()), ()) := rfl

theorem width_ok (w : Int) : vec_width w = some ((decide (1 ≤ w ∧ w ≤ 128), ()), ()) := by
  unfold vec_width
  simp only [gsome]
  by_cases h : 1 ≤ w ∧ w ≤ 128
  · rw [decide_eq_true (show w ≥ 1 from h.1), decide_eq_true h.2, decide_eq_true h]; rfl
  · rw [decide_eq_false h]
    by_cases h1 : w ≥ 1
    · rw [decide_eq_true h1, decide_eq_false (by omega)]; rfl
    · rw [decide_eq_false h1]; rfl

theorem vec_Cut_ok {w : Int} {x : Nat} (h1 : 1 ≤ w) (h2 : w ≤ 128) (hx : x < 340282366920938463463374607431768211456) : vec_Cut w (wp x) = some ((vw w (x % 2 ^ w.toNat), 0, ()), ()) := by
  unfold vec_Cut
  have hpa : ((wp x).1, (wp x).2.1, ()) = wp x := rfl
  have h128 : 2 ^ min w.toNat 128 - 1 < 340282366920938463463374607431768211456 := by
    have := Nat.pow_le_pow_right (n := 2) (by omega) (Nat.min_le_right w.toNat 128)
    rw [show 2 ^ 128 = 340282366920938463463374607431768211456 from rfl] at this
    omega
  rw [width_ok, Option.bind_some, decide_eq_true (show 1 ≤ w ∧ w ≤ 128 from ⟨h1, h2⟩), Bool.not_true, cond_false, word_Ones_ok, Option.bind_some, hpa]
  dsimp only
  rw [word_And_ok hx h128, Option.bind_some]
  dsimp only
  rw [vec_row_ok, Option.bind_some, Nat.min_eq_left (show w.toNat ≤ 128 by omega), Nat.and_two_pow_sub_one_eq_mod]

theorem halves_wp {y : Nat} (hy : y < 340282366920938463463374607431768211456) : ref01_Halves (rowB (BitVec.ofNat 128 y)) = some (((wp y).1, (wp y).2.1, ()), ()) := by
  have h := ref01_Halves_ok (hi := y / 18446744073709551616) (lo := y % 18446744073709551616) (by omega) (Nat.mod_lt _ (by omega))
  have e : wd (y / 18446744073709551616) (y % 18446744073709551616) = BitVec.ofNat 128 y := by
    unfold wd
    congr 1
    omega
  rw [e] at h
  exact h

theorem ref02_Of_ok {n X : Nat} (hn : n ≤ 128) : ref02_Of (lrow n X.testBit) = some ((vw (n : Int) (X % 2 ^ n), ()), ()) := by
  unfold ref02_Of
  rw [← bld_zero X.testBit]
  refine loop_up (fun i => (((lrow n X.testBit, (i : Int), ()), (0, 0, 0, ()), bld X.testBit i, ()) : ((List Bool) × Int × Unit) × ((Int × Int × Int × Unit) × (List Bool) × Unit))) n ?_ ?_ 0 (by omega)
  · intro i hi
    dsimp only
    unfold ref02_Of_s0
    simp only [gsome, lrow_len]
    rw [decide_eq_true (show (i : Int) < (n : Int) by omega), decide_eq_true (show (i : Int) < 128 by omega)]
    simp only [cond_true]
    rw [lrow_rd _ hi, Option.bind_some, ck_nat (show i < 128 by omega), bld_st _ (show i < 128 by omega) rfl, Option.bind_some, wi64 (by omega)]
  · dsimp only
    unfold ref02_Of_s0
    simp only [gsome, lrow_len]
    rw [decide_eq_false (show ¬ (n : Int) < (n : Int) by omega)]
    simp only [cond_false]
    have hb : bld X.testBit n = rowB (BitVec.ofNat 128 (X % 2 ^ n)) := by
      rw [row_w]
      exact row_ext fun i hi => by rw [Nat.testBit_mod_two_pow]
    have hlt : X % 2 ^ n < 340282366920938463463374607431768211456 := Nat.lt_of_lt_of_le (Nat.mod_lt _ (Nat.two_pow_pos n)) (by rw [show 340282366920938463463374607431768211456 = 2 ^ 128 from rfl]; exact Nat.pow_le_pow_right (by omega) hn)
    rw [hb, halves_wp hlt]
    rfl

theorem subL_lrow {α : Type} {n lo k : Nat} (f : Nat → α) (h : lo + k ≤ n) : subL (lrow n f) (lo : Int) ((lo + k : Nat) : Int) = some (lrow k fun j => f (lo + j)) := by
  unfold subL
  rw [lrow_len, if_pos (by omega), Int.toNat_natCast, Int.toNat_natCast]
  congr 1
  apply List.ext_getElem?
  intro j
  rw [List.getElem?_drop, List.getElem?_take]
  by_cases hj : j < k
  · rw [if_pos (by omega), lrow_get _ (by omega), lrow_get _ hj]
  · rw [if_neg (by omega), List.getElem?_eq_none (by rw [lrow_len]; omega)]

/-! ### a part of a vector -/
theorem slices {w : Int} {x : Nat} {hi lo : Int} (hx : x < 340282366920938463463374607431768211456) : ∃ v c, vec_Slice (vw w x) hi lo = some ((v, c, ()), ()) ∧ ref02_Slice (vw w x) hi lo = some ((v, c, ()), ()) := by
  have hpv : ((vw w x).1, (vw w x).2.1, (vw w x).2.2.1, ()) = vw w x := rfl
  unfold vec_Slice ref02_Slice
  rw [hpv, vec_May_ok hx, ref02_May_ok hx, Option.bind_some, Option.bind_some]
  dsimp only
  cases hm : may w x
  · exact ⟨_, _, rfl, rfl⟩
  · obtain ⟨h1, h2, h3⟩ := may_of hm
    simp only [Bool.not_true, cond_false, gsome]
    rw [show (vw w x).1 = w from rfl]
    by_cases h : 0 ≤ lo ∧ lo ≤ hi ∧ hi < w
    · obtain ⟨l, rfl⟩ : ∃ l : Nat, lo = l := ⟨lo.toNat, by omega⟩
      obtain ⟨k, rfl⟩ : ∃ k : Nat, hi = ((l + k : Nat) : Int) := ⟨hi.toNat - l, by omega⟩
      obtain ⟨W, rfl⟩ : ∃ W : Nat, w = W := ⟨w.toNat, by omega⟩
      rw [decide_eq_false (show ¬ (l : Int) < 0 by omega), decide_eq_false (show ¬ (l : Int) > ((l + k : Nat) : Int) by omega)]
      simp only [Bool.not_false, cond_true, cond_false]
      rw [decide_eq_false (show ¬ ((l + k : Nat) : Int) ≥ (W : Int) by omega), cond_false, vec_Word_ok, Option.bind_some, ref02_Bits_ok hx, Option.bind_some]
      dsimp only
      have hmv : moved x (-(l : Int)) = x / 2 ^ l := by
        unfold moved
        by_cases h0 : l = 0
        · subst h0
          rw [if_pos (by omega), if_pos (by omega), show (-((0 : Nat) : Int)).toNat = 0 from rfl, Nat.pow_zero, Nat.mul_one, Nat.div_one, Nat.mod_eq_of_lt hx]
        · rw [if_neg (by omega), show (-(-(l : Int))).toNat = l by omega]
      rw [word_Shr_ok hx, Option.bind_some, hmv]
      dsimp only
      have hlt : x / 2 ^ l < 340282366920938463463374607431768211456 := Nat.lt_of_le_of_lt (Nat.div_le_self _ _) hx
      rw [show IntKind.i64.wrap (IntKind.i64.wrap (((l + k : Nat) : Int) - (l : Int)) + 1) = ((k + 1 : Nat) : Int) by rw [wrap_i64 (n := ((l + k : Nat) : Int) - (l : Int)) (by omega) (by omega), wrap_i64 (by omega) (by omega)]; omega,
        show IntKind.i64.wrap (((l + k : Nat) : Int) + 1) = ((l + (k + 1) : Nat) : Int) by rw [wrap_i64 (by omega) (by omega)]; omega,
        vec_Cut_ok (by omega) (by omega) hlt, Option.bind_some, show (min (W : Int) 128).toNat = W by omega, subL_lrow _ (by omega), Option.bind_some, Int.toNat_natCast]
      have he : (lrow (k + 1) fun j => x.testBit (l + j)) = lrow (k + 1) (x / 2 ^ l).testBit := lrow_ext fun j _ => by rw [Nat.testBit_div_two_pow, Nat.add_comm j l]
      rw [he, ref02_Of_ok (by omega)]
      exact ⟨_, _, rfl, rfl⟩
    · have hc : (bif (bif decide (lo < 0) then true else (bif !decide (lo < 0) then decide (lo > hi) else false)) then true else (bif !(bif decide (lo < 0) then true else (bif !decide (lo < 0) then decide (lo > hi) else false)) then decide (hi ≥ (bif !(bif decide (lo < 0) then true else (bif !decide (lo < 0) then decide (lo > hi) else false)) then w else 0)) else false)) = true := by
        by_cases h4 : lo < 0
        · rw [decide_eq_true h4]; rfl
        · rw [decide_eq_false h4]
          by_cases h5 : lo > hi
          · rw [decide_eq_true h5]; rfl
          · rw [decide_eq_false h5]
            simp only [Bool.not_false, cond_true, cond_false]
            rw [decide_eq_true (by omega)]
      rw [hc]
      exact ⟨_, _, rfl, rfl⟩

/-! ### text -/
theorem vec_Text_ok {w : Int} {x : Nat} (hm : may w x = true) (hx : x < 340282366920938463463374607431768211456) : vec_Text (vw w x) = some ((text 10 w.toNat ++ [39] ++ text 16 x, ()), ()) := by
  have hpv : ((vw w x).1, (vw w x).2.1, (vw w x).2.2.1, ()) = vw w x := rfl
  obtain ⟨h1, h2, h3⟩ := may_of hm
  obtain ⟨W, rfl⟩ : ∃ W : Nat, w = W := ⟨w.toNat, by omega⟩
  unfold vec_Text
  have e10 : word_Text (0, IntKind.u64.wrap (vw (W : Int) x).1, ()) 10 = some ((text 10 W, ()), ()) := by
    rw [show (vw (W : Int) x).1 = (W : Int) from rfl, u64_small (by omega), wp_small (by omega)]
    exact word_Text_ok (b := 10) (by omega) (by omega) (by omega)
  have e16 : word_Text (wp x) 16 = some ((text 16 x, ()), ()) := word_Text_ok (b := 16) hx (by omega) (by omega)
  have hl1 := text_len (b := 10) (w := W) (by omega) (by omega)
  have hl2 := text_len (b := 16) (w := x) (by omega) hx
  rw [hpv, vec_May_ok hx, Option.bind_some, hm, Bool.not_true, cond_false, e10, Option.bind_some]
  dsimp only
  rw [show catI (text 10 W) [39] = some (text 10 W ++ [39]) by unfold catI; rw [if_pos (by simp only [List.length_cons, List.length_nil]; omega)], Option.bind_some, vec_Word_ok, Option.bind_some]
  dsimp only
  rw [e16, Option.bind_some]
  dsimp only
  rw [show catI (text 10 W ++ [39]) (text 16 x) = some (text 10 W ++ [39] ++ text 16 x) by unfold catI; rw [if_pos (by simp only [List.length_append, List.length_cons, List.length_nil]; omega)], Option.bind_some, Int.toNat_natCast]

end Go.L

namespace Go.L
open Go Go.Pv
set_option maxRecDepth 100000

theorem vec_Text_bad {w : Int} {x : Nat} (hm : may w x = false) (hx : x < 340282366920938463463374607431768211456) : vec_Text (vw w x) = some (([], ()), ()) := by
  have hpv : ((vw w x).1, (vw w x).2.1, (vw w x).2.2.1, ()) = vw w x := rfl
  unfold vec_Text
  rw [hpv, vec_May_ok hx, Option.bind_some, hm]
  rfl

/-- a vector's text -/
def vtx (w : Int) (x : Nat) : List Int := if may w x = true then text 10 w.toNat ++ [39] ++ text 16 x else []

theorem vtx_ok {w : Int} {x : Nat} (hx : x < 340282366920938463463374607431768211456) : vec_Text (vw w x) = some ((vtx w x, ()), ()) ∧ ref02_Text (vw w x) = some ((vtx w x, ()), ()) := by
  have hpv : ((vw w x).1, (vw w x).2.1, (vw w x).2.2.1, ()) = vw w x := rfl
  unfold vtx
  cases hm : may w x
  · refine ⟨vec_Text_bad hm hx, ?_⟩
    unfold ref02_Text
    rw [hpv, ref02_May_ok hx, Option.bind_some, hm]
    rfl
  · rw [if_pos rfl]
    refine ⟨vec_Text_ok hm hx, ?_⟩
    obtain ⟨h1, h2, h3⟩ := may_of hm
    obtain ⟨W, rfl⟩ : ∃ W : Nat, w = W := ⟨w.toNat, by omega⟩
    unfold ref02_Text
    have hl1 := text_len (b := 10) (w := W) (by omega) (by omega)
    have hl2 := text_len (b := 16) (w := x) (by omega) hx
    have hof : ref01_Of 0 (IntKind.u64.wrap (vw (W : Int) x).1) = some ((rowB (BitVec.ofNat 128 W), ()), ()) := by
      rw [show (vw (W : Int) x).1 = (W : Int) from rfl, u64_small (by omega)]
      have := of_wp (w := W) (by omega)
      rw [← wp_small (show W < 1000 by omega)] at this
      exact this
    have e10 : ref01_Text (rowB (BitVec.ofNat 128 W)) 10 = some ((text 10 W, ()), ()) := ref01_Text_ok (b := 10) (by omega) (by omega) (by omega)
    have e16 : ref01_Text (rowB (BitVec.ofNat 128 x)) 16 = some ((text 16 x, ()), ()) := ref01_Text_ok (b := 16) hx (by omega) (by omega)
    have hof2 : ref01_Of (vw (W : Int) x).2.1 (vw (W : Int) x).2.2.1 = some ((rowB (BitVec.ofNat 128 x), ()), ()) := of_wp hx
    rw [hpv, ref02_May_ok hx, Option.bind_some, hm, Bool.not_true, cond_false, hof, Option.bind_some]
    dsimp only
    rw [e10, Option.bind_some]
    dsimp only
    rw [show catI (text 10 W) [39] = some (text 10 W ++ [39]) by unfold catI; rw [if_pos (by simp only [List.length_cons, List.length_nil]; omega)], Option.bind_some, hof2, Option.bind_some]
    dsimp only
    rw [e16, Option.bind_some]
    dsimp only
    rw [show catI (text 10 W ++ [39]) (text 16 x) = some (text 10 W ++ [39] ++ text 16 x) by unfold catI; rw [if_pos (by simp only [List.length_append, List.length_cons, List.length_nil]; omega)], Option.bind_some, Int.toNat_natCast]

theorem vtx_len {w : Int} {x : Nat} (hx : x < 340282366920938463463374607431768211456) : (vtx w x).length ≤ 300 := by
  unfold vtx
  split
  · rename_i hm
    obtain ⟨h1, h2, h3⟩ := may_of hm
    have hl1 := text_len (b := 10) (w := w.toNat) (by omega) (by omega)
    have hl2 := text_len (b := 16) (w := x) (by omega) hx
    simp only [List.length_append, List.length_cons, List.length_nil]
    omega
  · simp

end Go.L

namespace Go.L
open Go Go.Pv
set_option maxRecDepth 100000

theorem wrap_nat64 (n : Int) : IntKind.u64.wrap n = (nat64 n : Int) := by
  rw [nat64_eq]
  simp only [IntKind.wrap, IntKind.signed, IntKind.bits]
  simp

theorem nat64_lt (n : Int) : nat64 n < 18446744073709551616 := by unfold nat64; omega

theorem wp_64 {n : Nat} (h : n < 18446744073709551616) : ((0, (n : Int), ()) : Int × Int × Unit) = wp n := by
  unfold wp
  rw [Nat.div_eq_of_lt h, Nat.mod_eq_of_lt h]
  rfl

/-- a number's digits -/
def dtx (n : Int) : List Int := if n < 0 then [45] ++ text 10 (nat64 (0 - IntKind.u64.wrap n)) else text 10 (nat64 n)

theorem text_len' {n : Int} : (text 10 (nat64 n)).length ≤ 128 := text_len (by omega) (by have := nat64_lt n; omega)

theorem dtx_len (n : Int) : (dtx n).length ≤ 129 := by
  unfold dtx
  split
  · have := text_len' (n := 0 - IntKind.u64.wrap n)
    simp only [List.length_append, List.length_cons, List.length_nil]
    omega
  · have := text_len' (n := n)
    omega

theorem cat_ok {x y : List Int} (h : x.length + y.length ≤ 1000000000) : catI x y = some (x ++ y) := by
  unfold catI
  rw [if_pos (by omega)]

theorem digits_ok (n : Int) : code_digits n = some ((dtx n, ()), ()) ∧ ref09_Digits n = some ((dtx n, ()), ()) := by
  unfold code_digits ref09_Digits dtx
  have tx : ∀ m : Int, word_Text (0, (nat64 m : Int), ()) 10 = some ((text 10 (nat64 m), ()), ()) := fun m => by
    rw [wp_64 (nat64_lt m)]
    exact word_Text_ok (b := 10) (by have := nat64_lt m; omega) (by omega) (by omega)
  have ro : ∀ m : Int, ref01_Of 0 (nat64 m : Int) = some ((rowB (BitVec.ofNat 128 (nat64 m)), ()), ()) := fun m => by
    have := of_wp (w := nat64 m) (by have := nat64_lt m; omega)
    rw [← wp_64 (nat64_lt m)] at this
    exact this
  have rt : ∀ m : Int, ref01_Text (rowB (BitVec.ofNat 128 (nat64 m))) 10 = some ((text 10 (nat64 m), ()), ()) := fun m => ref01_Text_ok (b := 10) (by have := nat64_lt m; omega) (by omega) (by omega)
  by_cases h : n < 0
  · rw [decide_eq_true h, cond_true, cond_true, if_pos h, wrap_nat64 (0 - IntKind.u64.wrap n), tx, ro]
    simp only [Option.bind_some, rt]
    rw [cat_ok (by have := text_len' (n := 0 - IntKind.u64.wrap n); simp only [List.length_cons, List.length_nil]; omega)]
    exact ⟨rfl, rfl⟩
  · rw [decide_eq_false h, cond_false, cond_false, if_neg h, wrap_nat64 n, tx, ro]
    simp only [Option.bind_some, rt]
    exact ⟨trivial, trivial⟩

def vtxt (v : V4T) : List Int := vtx v.1 (v.2.1.toNat * 18446744073709551616 + v.2.2.1.toNat)

theorem vtxt_ok {v : V4T} (h : okV v) : vec_Text v = some ((vtxt v, ()), ()) ∧ ref02_Text v = some ((vtxt v, ()), ()) := by
  obtain ⟨h1, h2⟩ := okV_vw h
  unfold vtxt
  generalize v.2.1.toNat * 18446744073709551616 + v.2.2.1.toNat = x at h1 h2
  have := vtx_ok (w := v.1) h1
  rw [← h2] at this
  exact this

theorem vtxt_len {v : V4T} (h : okV v) : (vtxt v).length ≤ 300 := vtx_len (okV_vw h).1

theorem name_len {k : Nat} (hk : k < 35) : (rowK k).name.length ≤ 20 := by
  rcases ops35 hk with rfl | rfl | rfl | rfl | rfl | rfl | rfl | rfl | rfl | rfl | rfl | rfl | rfl | rfl | rfl | rfl | rfl | rfl | rfl | rfl | rfl | rfl | rfl | rfl | rfl | rfl | rfl | rfl | rfl | rfl | rfl | rfl | rfl | rfl | rfl <;> decide

theorem many_is {k : Nat} (hk : k < 35) : (k = 0 ∧ (rowK k).many = 0) ∨ (k ≠ 0 ∧ ((rowK k).many = 0 ∨ (rowK k).many = 1 ∨ (rowK k).many = 2)) := by
  rcases ops35 hk with rfl | rfl | rfl | rfl | rfl | rfl | rfl | rfl | rfl | rfl | rfl | rfl | rfl | rfl | rfl | rfl | rfl | rfl | rfl | rfl | rfl | rfl | rfl | rfl | rfl | rfl | rfl | rfl | rfl | rfl | rfl | rfl | rfl | rfl | rfl <;> decide

theorem Name_ok {k : Nat} (hk : k < 35) : code_Name (k : Int) = some (((rowK k).name, ()), ()) := by
  unfold code_Name
  have hl : (tabL.map Rw.name).length = 35 := rfl
  rw [known_ok, Option.bind_some, names_is, Option.bind_some]
  rw [show knownB (k : Int) = true by unfold knownB; rw [decide_eq_true (by omega), decide_eq_true (by omega)]; rfl]
  simp only [Bool.not_true, cond_false]
  rw [hl, ck_nat hk, nameK_rd hk]
  rfl

theorem Effect_ok {k : Nat} (hk : k < 35) : code_Effect (k : Int) = some (((rowK k).takes, (rowK k).puts, ()), ()) := by
  unfold code_Effect
  rw [known_ok, Option.bind_some, show knownB (k : Int) = true by unfold knownB; rw [decide_eq_true (by omega), decide_eq_true (by omega)]; rfl, shape_is hk]
  rfl

theorem room16 {α : Type} {xs ys : List α} (h : xs.length + ys.length ≤ 100000) : roomI 16 xs ys = some (xs ++ ys) := by
  unfold roomI
  rw [if_pos (by omega)]

/-- an instruction's text -/
def itx (x : Ins) : List Int := if knownB x.1 = true then
    (rowK x.1.toNat).name ++ (if x.1 = 0 then [32] ++ vtxt x.2.2.2.1 else if (rowK x.1.toNat).many = 0 then [] else if (rowK x.1.toNat).many = 1 then [32] ++ dtx x.2.1 else [32] ++ dtx x.2.1 ++ ([32] ++ dtx x.2.2.1))
  else []

theorem join1 (a : List Int) (h : a.length ≤ 100000) : strings_Join [a] [32] = some ((a, ()), ()) := by
  unfold strings_Join joinF
  rw [if_pos ⟨by simp [joinI]; omega, by simp⟩]
  simp [joinI]
theorem join2 (a b : List Int) (h : a.length + b.length ≤ 100000) : strings_Join [a, b] [32] = some ((a ++ ([32] ++ b), ()), ()) := by
  unfold strings_Join joinF
  rw [if_pos ⟨by simp [joinI]; omega, by simp⟩]
  simp [joinI]
theorem join3 (a b c : List Int) (h : a.length + b.length + c.length ≤ 100000) : strings_Join [a, b, c] [32] = some ((a ++ ([32] ++ b ++ ([32] ++ c)), ()), ()) := by
  unfold strings_Join joinF
  rw [if_pos ⟨by simp [joinI]; omega, by simp⟩]
  simp [joinI]

theorem Text_ok {x : Ins} (hv : okV x.2.2.2.1) : code_Text x = some ((itx x, ()), ()) := by
  obtain ⟨n, a, b, v, _⟩ := x
  unfold code_Text itx
  rw [known_ok, Option.bind_some]
  dsimp only at hv ⊢
  have hz : ((v.1, v.2.1, v.2.2.1, ()) : V4T) = v := rfl
  cases hk : knownB n with
  | false => rfl
  | true =>
    obtain ⟨k, rfl, hk35⟩ := known_of hk
    have hn := name_len hk35
    have hd1 := dtx_len a
    have hd2 := dtx_len b
    have hvl := vtxt_len hv
    simp only [Bool.not_true, cond_false, Name_ok hk35, shape_is hk35, Option.bind_some, shpR, hz, (vtxt_ok hv).1, (digits_ok a).1, (digits_ok b).1, Int.toNat_natCast, if_true]
    rcases many_is hk35 with ⟨h0, hm⟩ | ⟨h0, hm⟩
    · rw [decide_eq_true (show (k : Int) = 0 by omega), if_pos (show (k : Int) = 0 by omega)]
      simp only [hm, cond_true, show decide ((1 : Int) ≤ 0) = false from rfl, show decide ((0 : Int) = 2) = false from rfl, cond_false]
      rw [room16 (by simp), Option.bind_some, List.singleton_append, join2 _ _ (by omega)]
      rfl
    · rw [decide_eq_false (show ¬ (k : Int) = 0 by omega), if_neg (show ¬ (k : Int) = 0 by omega)]
      rcases hm with hm | hm | hm
      · simp only [hm, show decide ((1 : Int) ≤ 0) = false from rfl, show decide ((0 : Int) = 2) = false from rfl, cond_false, if_true]
        rw [join1 _ (by omega), List.append_nil]
        rfl
      · simp only [hm, show decide ((1 : Int) ≤ 1) = true from rfl, show decide ((1 : Int) = 2) = false from rfl, cond_true, cond_false, show ¬ ((1 : Int) = 0) by decide, if_false, if_true]
        rw [room16 (by simp), Option.bind_some, List.singleton_append, join2 _ _ (by omega)]
        rfl
      · simp only [hm, show decide ((1 : Int) ≤ 2) = true from rfl, show decide ((2 : Int) = 2) = true from rfl, cond_true, cond_false, show ¬ ((2 : Int) = 0) by decide, show ¬ ((2 : Int) = 1) by decide, if_false, if_true]
        rw [room16 (by simp), Option.bind_some, List.singleton_append, room16 (by simp), Option.bind_some]
        rw [show [(rowK k).name, dtx a] ++ [dtx b] = [(rowK k).name, dtx a, dtx b] from rfl, join3 _ _ _ (by omega)]
        rfl

end Go.L

namespace Go.L
open Go Go.Pv
set_option maxRecDepth 100000

/-- an instruction's step -/
def stp (x : Ins) : Stp := mkS (rowK x.1.toNat).ty x.1 x.2.1 x.2.2.1 x.2.2.2.1

def badI (x : Ins) : Bool := !decide (mayI x = 0)

/-- the first instruction of a row that may not be; else the row's length -/
def firstBad (l : List Ins) : Nat := l.findIdx badI

/-- what comes of a row: the steps, how far, what is wrong -/
def allR (l : List Ins) : List Stp × Int × Int × Unit :=
  if firstBad (l.take 64) < (l.take 64).length then ([], (firstBad (l.take 64) : Int), mayI (l.getD (firstBad (l.take 64)) insZ), ())
  else if 64 < l.length then ([], 64, 2, ()) else (l.map stp, (l.length : Int), 0, ())

end Go.L
