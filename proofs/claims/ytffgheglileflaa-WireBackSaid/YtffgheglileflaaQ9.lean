/- The functions that the statements reach as plain Lean, and what they compute. -/
import Derived.Test.YtffgheglileflaaQ8

set_option linter.unusedSimpArgs false
set_option linter.unusedVariables false

namespace Go.L
open Go Go.Pv
set_option maxRecDepth 100000

/-! ### loops that count -/
theorem loop_up {σ ρ : Type} {f : σ → Option (σ ⊕ ρ)} (st : Nat → σ) (n : Nat) {r : ρ} (step : ∀ i, i < n → f (st i) = some (.inl (st (i + 1)))) (stop : f (st n) = some (.inr r)) : ∀ k, k ≤ n → loopR f (st k) = some r := by
  intro k hk
  induction h : n - k generalizing k with
  | zero =>
    have : k = n := by omega
    subst this
    exact loopR_out stop
  | succ m ih => exact loopR_on (step k (by omega)) (ih (k + 1) (by omega) (by omega))

theorem ck_nat {β : Type} {i n : Nat} (h : i < n) (k : Int → Option β) : (Option.map (fun _ => (i : Int)) (ckI (i : Int) n)).bind k = k i := by
  unfold ckI
  rw [if_pos ⟨by omega, by omega⟩]
  rfl

theorem wi64 {i : Nat} (h : i < 1000000000) : IntKind.i64.wrap ((i : Int) + 1) = ((i + 1 : Nat) : Int) := by
  rw [wrap_i64 (by omega) (by omega)]; omega

theorem nbeq {i j : Nat} (h : i ≠ j) : Nat.beq i j = false := by
  cases hb : Nat.beq i j with
  | false => rfl
  | true => exact absurd (Nat.eq_of_beq_eq_true hb) h

/-! ### rows -/
def row (f : Nat → Bool) : List Bool := (List.range 128).map f

theorem row_len (f : Nat → Bool) : (row f).length = 128 := by simp [row]

theorem row_get (f : Nat → Bool) {i : Nat} (h : i < 128) : (row f)[i]? = some (f i) := by simp [row, h]

theorem row_ext {f g : Nat → Bool} (h : ∀ i, i < 128 → f i = g i) : row f = row g := by
  unfold row
  exact List.map_congr_left fun i hi => h i (List.mem_range.1 hi)

theorem row_rd (f : Nat → Bool) {i : Nat} (h : i < 128) : rdI (row f) (i : Int) = some (f i) := by
  unfold rdI
  rw [if_pos (by omega)]
  simpa using row_get f h

theorem row_st (f : Nat → Bool) {i : Nat} (h : i < 128) (v : Bool) : stI (row f) (i : Int) v = some (row fun j => bif Nat.beq j i then v else f j) := by
  unfold stI
  rw [if_pos ⟨by omega, by rw [row_len]; simpa using h⟩]
  congr 1
  apply List.ext_getElem?
  intro j
  rw [List.getElem?_set, Int.toNat_natCast]
  by_cases hj : j < 128
  · rw [row_get _ hj]
    by_cases e : i = j
    · subst e
      rw [if_pos rfl, if_pos (by rw [row_len]; exact hj), row_get _ hj, Nat.beq_refl]
      rfl
    · rw [if_neg e, row_get _ hj, nbeq (fun h => e h.symm)]
      rfl
  · have h1 : ∀ g : Nat → Bool, (row g)[j]? = none := fun g => List.getElem?_eq_none (by rw [row_len]; omega)
    rw [h1, h1, if_neg (by omega)]

theorem row_zero : List.replicate 128 false = row fun _ => false := by decide

/-- a number's bits -/
def rowB (x : BitVec 128) : List Bool := row x.getLsbD

/-- a row that is made bit by bit, from the lowest on -/
def bld (f : Nat → Bool) (i : Nat) : List Bool := row fun j => decide (j < i) && f j

theorem bld_st (f : Nat → Bool) {i : Nat} (hi : i < 128) {v : Bool} (hv : v = f i) : stI (bld f i) (i : Int) v = some (bld f (i + 1)) := by
  unfold bld
  rw [row_st _ hi]
  congr 1
  refine row_ext fun j hj => ?_
  by_cases e : j = i
  · subst e; simp [hv]
  · rw [nbeq e]
    simp only [cond_false]
    congr 1
    by_cases h : j < i
    · simp [h]; omega
    · simp [h]; omega

theorem bld_zero (f : Nat → Bool) : bld f 0 = List.replicate 128 false := by rw [row_zero]; exact row_ext fun i _ => by simp
theorem gsome {α β : Type} (b : Bool) (v d : β) (k : β → Option α) : guardR b (some v) d k = k (bif b then v else d) := rfl
theorem gtrue {α β : Type} (x : Option β) (d : β) (k : β → Option α) : guardR true x d k = x.bind k := by cases x <;> rfl
theorem gfalse {α β : Type} (x : Option β) (d : β) (k : β → Option α) : guardR false x d k = k d := by cases x <;> rfl

theorem dlt {i n : Nat} (h : i < n) : decide ((i : Int) < (n : Int)) = true := decide_eq_true (by omega)
theorem dge (n : Nat) : decide ((n : Int) < (n : Int)) = false := decide_eq_false (by omega)

theorem wi64d {i : Nat} (h : i < 1000000000) : IntKind.i64.wrap ((i : Int) - 1) = (i : Int) - 1 := wrap_i64 (by omega) (by omega)

/-- a loop that counts down from n - 1 -/
theorem loop_down {σ ρ : Type} {f : σ → Option (σ ⊕ ρ)} (st : Nat → σ) (I : Nat → Prop) {r : ρ} (step : ∀ i, I (i + 1) → (f (st (i + 1)) = some (.inl (st i)) ∧ I i) ∨ f (st (i + 1)) = some (.inr r)) (stop : I 0 → f (st 0) = some (.inr r)) : ∀ n, I n → loopR f (st n) = some r
  | 0, h => loopR_out (stop h)
  | n + 1, h => by
    rcases step n h with ⟨h1, h2⟩ | h1
    · exact loopR_on h1 (loop_down st I step stop n h2)
    · exact loopR_out h1

theorem dpos (i : Nat) : decide ((((i + 1 : Nat) : Int) - 1) ≥ 0) = true := decide_eq_true (by omega)
theorem dneg : decide ((((0 : Nat) : Int) - 1) ≥ 0) = false := decide_eq_false (by omega)
theorem pm (i : Nat) : (((i + 1 : Nat) : Int) - 1) = (i : Int) := by omega

/-! ### how many bits -/
def bitLen (n : Nat) : Nat := if n = 0 then 0 else Nat.log2 n + 1

theorem ref01_Len_ok (x : BitVec 128) : ref01_Len (rowB x) = some (((bitLen x.toNat : Int), ()), ()) := by
  unfold ref01_Len
  have key := loop_down (f := fun (z : (Int × Unit) × ((List Bool) × Unit)) => ref01_Len_s0 z.1.1 z.2.1)
    (fun i => ((((i : Nat) : Int) - 1, ()), rowB x, ())) (fun i => i ≤ 128 ∧ x.toNat < 2 ^ i) (r := (((bitLen x.toNat : Int), ()), ())) ?_ ?_ 128 ⟨by omega, x.isLt⟩
  · exact key
  · intro i ⟨hi, hI⟩
    have hi' : i < 128 := by omega
    simp only
    unfold ref01_Len_s0
    rw [dpos, cond_true, pm, ck_nat hi', show rdI (rowB x) (i : Int) = some (x.getLsbD i) from row_rd _ hi', Option.bind_some]
    cases hb : x.getLsbD i with
    | true =>
      right
      rw [cond_true, wi64 (by omega)]
      have h2 : 2 ^ i ≤ x.toNat := Nat.ge_two_pow_of_testBit hb
      have h0 : x.toNat ≠ 0 := by have := Nat.two_pow_pos i; omega
      have : bitLen x.toNat = i + 1 := by
        unfold bitLen
        rw [if_neg h0]
        have := (Nat.log2_eq_iff h0).2 ⟨h2, hI⟩
        omega
      rw [this]
    | false =>
      left
      rw [cond_false, wi64d (by omega)]
      refine ⟨rfl, by omega, ?_⟩
      have h1 : x.toNat.testBit i = false := hb
      rw [Nat.testBit_eq_decide_div_mod_eq] at h1
      have h1 := of_decide_eq_false h1
      rw [Nat.pow_succ] at hI
      have h2 : x.toNat / 2 ^ i < 2 := Nat.div_lt_of_lt_mul (by omega)
      have h3 : x.toNat / 2 ^ i = 0 := by
        generalize x.toNat / 2 ^ i = e at h1 h2
        omega
      exact (Nat.div_eq_zero_iff_lt (Nat.two_pow_pos i)).1 h3
  · intro ⟨_, hI⟩
    simp only
    unfold ref01_Len_s0
    have : x.toNat = 0 := by simpa using hI
    rw [dneg, cond_false, this]
    rfl

/-! ### rows of halves, halves of rows -/
theorem wu64 {n : Nat} (h : n < 18446744073709551616) : IntKind.u64.wrap (n : Int) = n := wrap_u64 (by omega) (by omega)

/-- the word of two halves -/
def wd (hi lo : Nat) : BitVec 128 := BitVec.ofNat 128 (hi * 2 ^ 64 + lo)

theorem wd_bit {hi lo : Nat} (h2 : lo < 2 ^ 64) {i : Nat} (hi' : i < 128) : (wd hi lo).getLsbD i = if i < 64 then lo.testBit i else hi.testBit (i - 64) := by
  simp only [wd, BitVec.getLsbD_ofNat, hi', decide_true, Bool.true_and]
  rw [Nat.mul_comm, Nat.testBit_two_pow_mul_add _ h2]

theorem tmod2 (n i : Nat) : decide ((((n / 2 ^ i : Nat) : Int).tmod 2) = 1) = n.testBit i := by
  rw [Nat.testBit_eq_decide_div_mod_eq]
  generalize n / 2 ^ i = e
  have : (e : Int).tmod 2 = ((e % 2 : Nat) : Int) := by
    rw [Int.tmod_eq_emod_of_nonneg (by omega)]; rfl
  rw [this]
  by_cases h : e % 2 = 1
  · rw [decide_eq_true h, decide_eq_true (by omega)]
  · rw [decide_eq_false h, decide_eq_false (by omega)]

theorem tdiv2 {n : Nat} (h : n < 18446744073709551616) (i : Nat) : IntKind.u64.wrap (((n / 2 ^ i : Nat) : Int).tdiv 2) = ((n / 2 ^ (i + 1) : Nat) : Int) := by
  rw [Nat.pow_succ, ← Nat.div_div_eq_div_mul]
  have : n / 2 ^ i ≤ n := Nat.div_le_self _ _
  generalize n / 2 ^ i = e at *
  rw [Int.tdiv_eq_ediv_of_nonneg (by omega)]
  have h2 : ((e : Int) / 2) = ((e / 2 : Nat) : Int) := by omega
  rw [h2, wu64 (by omega)]

theorem ref01_Of_ok {hi lo : Nat} (h1 : hi < 18446744073709551616) (h2 : lo < 18446744073709551616) : ref01_Of (hi : Int) (lo : Int) = some ((rowB (wd hi lo), ()), ()) := by
  unfold ref01_Of
  let g : Nat → List Bool := fun i => row fun j => if j < 64 then decide (j < i) && lo.testBit j else decide (j - 64 < i) && hi.testBit (j - 64)
  have key := loop_up (f := fun (z : (Int × Int × Int × Unit) × ((List Bool) × (List Bool) × Unit)) => ref01_Of_s0 z.1.1 z.1.2.1 z.1.2.2.1 z.2.1 z.2.2.1)
    (fun i => ((((hi / 2 ^ i : Nat) : Int), ((lo / 2 ^ i : Nat) : Int), (i : Int), ()), List.replicate 128 false, g i, ())) 64 (r := ((rowB (wd hi lo), ()), ())) ?_ ?_ 0 (by omega)
  · have h0 : g 0 = List.replicate 128 false := by rw [row_zero]; exact row_ext fun i _ => by simp
    simp only [h0, Nat.pow_zero, Nat.div_one] at key
    exact key
  · intro i hi'
    simp only
    unfold ref01_Of_s0
    rw [show decide ((i : Int) < 64) = true from decide_eq_true (by omega), cond_true, ck_nat (show i < 128 by omega)]
    have hw : IntKind.i64.wrap ((i : Int) + 64) = ((i + 64 : Nat) : Int) := by rw [wrap_i64 (by omega) (by omega)]; omega
    simp only [g]
    rw [row_st _ (show i < 128 by omega), Option.bind_some]
    simp only [hw]
    rw [ck_nat (show i + 64 < 128 by omega), row_st _ (show i + 64 < 128 by omega), Option.bind_some, tdiv2 h1, tdiv2 h2, tmod2, tmod2, wi64 (by omega)]
    congr 5
    refine row_ext fun j hj => ?_
    by_cases e : j = i + 64
    · subst e; simp
    · rw [nbeq e]
      by_cases e2 : j = i
      · subst e2; simp; omega
      · rw [nbeq e2]
        simp only [cond_false]
        by_cases h64 : j < 64
        · simp only [h64, if_true]
          congr 1
          by_cases hji : j < i
          · simp [hji]; omega
          · simp [hji]; omega
        · simp only [h64, if_false]
          congr 1
          by_cases hji : j - 64 < i
          · simp [hji]; omega
          · simp [hji]; omega
  · simp only
    unfold ref01_Of_s0
    rw [show decide (((64 : Nat) : Int) < 64) = false from decide_eq_false (by omega), cond_false]
    congr 4
    refine row_ext fun j hj => ?_
    rw [wd_bit h2 hj]
    by_cases h : j < 64
    · simp [h]
    · simp [h]; omega

theorem ref01_Halves_ok {hi lo : Nat} (h1 : hi < 18446744073709551616) (h2 : lo < 18446744073709551616) : ref01_Halves (rowB (wd hi lo)) = some (((hi : Int), (lo : Int), ()), ()) := by
  unfold ref01_Halves
  have hs : ∀ n i : Nat, n / 2 ^ i = 2 * (n / 2 ^ (i + 1)) + (if n.testBit i then 1 else 0) := by
    intro n i
    rw [Nat.testBit_eq_decide_div_mod_eq, Nat.pow_succ, ← Nat.div_div_eq_div_mul]
    have : n / 2 ^ i % 2 = 0 ∨ n / 2 ^ i % 2 = 1 := by omega
    rcases this with h | h <;> simp [h] <;> omega
  have hle : ∀ n i : Nat, n / 2 ^ i ≤ n := fun n i => Nat.div_le_self _ _
  have key := loop_down (f := fun (z : (Int × Int × Int × Unit) × ((List Bool) × Unit)) => ref01_Halves_s0 z.1.1 z.1.2.1 z.1.2.2.1 z.2.1)
    (fun i => ((((hi / 2 ^ i : Nat) : Int), ((lo / 2 ^ i : Nat) : Int), ((i : Nat) : Int) - 1, ()), rowB (wd hi lo), ())) (fun i => i ≤ 64) (r := (((hi : Int), (lo : Int), ()), ())) ?_ ?_ 64 (by omega)
  · have e1 : hi / 2 ^ 64 = 0 := Nat.div_eq_of_lt (by omega)
    have e2 : lo / 2 ^ 64 = 0 := Nat.div_eq_of_lt (by omega)
    simp only [e1, e2] at key
    exact key
  · intro i hi'
    left
    refine ⟨?_, by omega⟩
    simp only
    unfold ref01_Halves_s0
    rw [dpos, cond_true, pm]
    have hw : IntKind.i64.wrap ((i : Int) + 64) = ((i + 64 : Nat) : Int) := by rw [wrap_i64 (by omega) (by omega)]; omega
    have hb1 : rdI (rowB (wd hi lo)) ((i + 64 : Nat) : Int) = some (hi.testBit i) := by
      rw [show rdI (rowB (wd hi lo)) ((i + 64 : Nat) : Int) = some ((wd hi lo).getLsbD (i + 64)) from row_rd _ (by omega), wd_bit h2 (by omega), if_neg (by omega), Nat.add_sub_cancel]
    have hb2 : rdI (rowB (wd hi lo)) (i : Int) = some (lo.testBit i) := by
      rw [show rdI (rowB (wd hi lo)) (i : Int) = some ((wd hi lo).getLsbD i) from row_rd _ (by omega), wd_bit h2 (by omega), if_pos (by omega)]
    have q1 := hs hi i
    have q2 := hs lo i
    have l1 := hle hi i
    have l2 := hle lo i
    have m1 : IntKind.u64.wrap (2 * ((hi / 2 ^ (i + 1) : Nat) : Int)) = ((2 * (hi / 2 ^ (i + 1)) : Nat) : Int) := by
      rw [show (2 * ((hi / 2 ^ (i + 1) : Nat) : Int)) = ((2 * (hi / 2 ^ (i + 1)) : Nat) : Int) by omega, wu64 (by omega)]
    have m2 : IntKind.u64.wrap (2 * ((lo / 2 ^ (i + 1) : Nat) : Int)) = ((2 * (lo / 2 ^ (i + 1)) : Nat) : Int) := by
      rw [show (2 * ((lo / 2 ^ (i + 1) : Nat) : Int)) = ((2 * (lo / 2 ^ (i + 1)) : Nat) : Int) by omega, wu64 (by omega)]
    simp only [hw, m1, m2]
    simp only [ck_nat (show i + 64 < 128 by omega), ck_nat (show i < 128 by omega), hb1, hb2, wi64d (show i < 1000000000 by omega), Option.bind_some]
    generalize hi / 2 ^ i = a at *
    generalize lo / 2 ^ i = b at *
    generalize hi / 2 ^ (i + 1) = c at *
    generalize lo / 2 ^ (i + 1) = d at *
    clear hb1 hb2 hs hle
    generalize hi.testBit i = p at *
    generalize lo.testBit i = q at *
    cases p <;> cases q <;> simp only [cond_true, cond_false, if_true, if_false, Bool.false_eq_true, Nat.add_zero] at q1 q2 ⊢
    · rw [q1, q2]
    · rw [show ((2 * d : Nat) : Int) + 1 = ((b : Nat) : Int) by omega, wu64 (by omega), q1]
    · rw [show ((2 * c : Nat) : Int) + 1 = ((a : Nat) : Int) by omega, wu64 (by omega), q2]
    · rw [show ((2 * c : Nat) : Int) + 1 = ((a : Nat) : Int) by omega, wu64 (by omega), show ((2 * d : Nat) : Int) + 1 = ((b : Nat) : Int) by omega, wu64 (by omega)]
  · intro _
    simp only
    unfold ref01_Halves_s0
    rw [dneg, cond_false]
    simp

end Go.L

namespace Go.L
open Go Go.Pv
set_option maxRecDepth 100000

/-! ### the program's words as numbers -/
/-- the two halves of a number -/
def wp (w : Nat) : Int × Int × Unit := (((w / 18446744073709551616 : Nat) : Int), ((w % 18446744073709551616 : Nat) : Int), ())

theorem wp_inj {a b : Nat} (h : wp a = wp b) : a = b := by
  unfold wp at h
  simp only [Prod.mk.injEq, and_true] at h
  omega

theorem of_wp {w : Nat} (h : w < 340282366920938463463374607431768211456) : ref01_Of (wp w).1 (wp w).2.1 = some ((rowB (BitVec.ofNat 128 w), ()), ()) := by
  unfold wp
  simp only
  rw [ref01_Of_ok (by omega) (by omega)]
  unfold wd
  rw [show (2 : Nat) ^ 64 = 18446744073709551616 from by decide, show w / 18446744073709551616 * 18446744073709551616 + w % 18446744073709551616 = w by omega]

theorem bits_Sub64_eq : bits_Sub64 = sub64F := rfl

theorem word_Sub_ok {a b : Nat} (ha : a < 340282366920938463463374607431768211456) (hb : b < 340282366920938463463374607431768211456) :
    word_Sub (wp a) (wp b) = some ((wp ((a + (340282366920938463463374607431768211456 - b)) % 340282366920938463463374607431768211456), decide (a < b), ()), ()) := by
  unfold word_Sub wp
  simp only [bits_Sub64_eq, sub64F]
  rw [if_pos (by omega), Option.bind_some]
  simp only
  by_cases hlo : ((a % 18446744073709551616 : Nat) : Int) < ((b % 18446744073709551616 : Nat) : Int) + 0
  · rw [if_pos hlo, if_pos (by omega), Option.bind_some]
    dsimp only
    congr 3
    · congr 1
      · omega
      · congr 1; omega
    · congr 1
      by_cases h : a < b
      · rw [decide_eq_true h, decide_eq_true (by split <;> omega)]
      · rw [decide_eq_false h, decide_eq_false (by split <;> omega)]
  · rw [if_neg hlo, if_pos (by omega), Option.bind_some]
    dsimp only
    congr 3
    · congr 1
      · omega
      · congr 1; omega
    · congr 1
      by_cases h : a < b
      · rw [decide_eq_true h, decide_eq_true (by split <;> omega)]
      · rw [decide_eq_false h, decide_eq_false (by split <;> omega)]

end Go.L

namespace Go.L
open Go Go.Pv
set_option maxRecDepth 100000

theorem wrapu (n : Int) : IntKind.u64.wrap n = n % 18446744073709551616 := by
  simp only [IntKind.wrap, IntKind.signed, IntKind.bits]
  simp

theorem fdiv_pow (n k : Nat) : ((n : Int).fdiv (2 ^ k)) = ((n / 2 ^ k : Nat) : Int) := by
  rw [Int.fdiv_eq_ediv_of_nonneg _ (Int.le_of_lt (Int.pow_pos (by decide)))]
  simp

theorem shr_ok {n k : Nat} : shrI .u64 (n : Int) (k : Int) = some (((n / 2 ^ min k 64 : Nat) : Int)) := by
  unfold shrI
  rw [if_neg (by omega), Int.toNat_natCast]
  show some ((n : Int).fdiv (2 ^ (min k 64))) = _
  rw [fdiv_pow]

theorem shl_ok {n k : Nat} : shlI .u64 (n : Int) (k : Int) = some (((n * 2 ^ min k 64 % 18446744073709551616 : Nat) : Int)) := by
  unfold shlI
  rw [if_neg (by omega), Int.toNat_natCast]
  show some (IntKind.u64.wrap ((n : Int) * 2 ^ (min k 64))) = _
  rw [wrapu]
  congr 1

/-! ### how many bits a half has -/
theorem bitLen_of {n L : Nat} (h1 : n < 2 ^ L) (h2 : L = 0 ∨ 2 ^ (L - 1) ≤ n) : bitLen n = L := by
  unfold bitLen
  by_cases h : n = 0
  · subst h
    rcases h2 with rfl | h2
    · rfl
    · have := Nat.two_pow_pos (L - 1); omega
  · rw [if_neg h]
    have hL : L ≠ 0 := by rintro rfl; simp at h1; exact h h1
    have := (Nat.log2_eq_iff (k := L - 1) h).2 ⟨h2.resolve_left hL, by rw [Nat.sub_add_cancel (by omega)]; exact h1⟩
    omega

theorem bitLen_spec (n : Nat) : n < 2 ^ bitLen n ∧ (bitLen n = 0 ∨ 2 ^ (bitLen n - 1) ≤ n) := by
  unfold bitLen
  by_cases h : n = 0
  · subst h; simp
  · rw [if_neg h]
    have := (Nat.log2_eq_iff (k := Nat.log2 n) h).1 rfl
    exact ⟨this.2, .inr this.1⟩

theorem bitLen_shift {n k : Nat} (h : 2 ^ k ≤ n) : bitLen n = k + bitLen (n / 2 ^ k) := by
  obtain ⟨h1, h2⟩ := bitLen_spec (n / 2 ^ k)
  have hp := Nat.two_pow_pos k
  have h0 : 1 ≤ n / 2 ^ k := (Nat.le_div_iff_mul_le hp).2 (by omega)
  refine bitLen_of ?_ (.inr ?_)
  · rw [Nat.pow_add, Nat.mul_comm]
    exact (Nat.div_lt_iff_lt_mul hp).1 h1
  · rcases h2 with h2 | h2
    · rw [h2] at h1; omega
    · have hb : bitLen (n / 2 ^ k) ≠ 0 := fun e => by rw [e] at h1; omega
      rw [show k + bitLen (n / 2 ^ k) - 1 = (bitLen (n / 2 ^ k) - 1) + k by omega, Nat.pow_add]
      exact (Nat.le_div_iff_mul_le hp).1 h2

theorem tab_ok : ∀ n : Nat, n < 256 → rdI [0, 1, 2, 2, 3, 3, 3, 3, 4, 4, 4, 4, 4, 4, 4, 4, 5, 5, 5, 5, 5, 5, 5, 5, 5, 5, 5, 5, 5, 5, 5, 5, 6, 6, 6, 6, 6, 6, 6, 6, 6, 6, 6, 6, 6, 6, 6, 6, 6, 6, 6, 6, 6, 6, 6, 6, 6, 6, 6, 6, 6, 6, 6, 6, 7, 7, 7, 7, 7, 7, 7, 7, 7, 7, 7, 7, 7, 7, 7, 7, 7, 7, 7, 7, 7, 7, 7, 7, 7, 7, 7, 7, 7, 7, 7, 7, 7, 7, 7, 7, 7, 7, 7, 7, 7, 7, 7, 7, 7, 7, 7, 7, 7, 7, 7, 7, 7, 7, 7, 7, 7, 7, 7, 7, 7, 7, 7, 7, 8, 8, 8, 8, 8, 8, 8, 8, 8, 8, 8, 8, 8, 8, 8, 8, 8, 8, 8, 8, 8, 8, 8, 8, 8, 8, 8, 8, 8, 8, 8, 8, 8, 8, 8, 8, 8, 8, 8, 8, 8, 8, 8, 8, 8, 8, 8, 8, 8, 8, 8, 8, 8, 8, 8, 8, 8, 8, 8, 8, 8, 8, 8, 8, 8, 8, 8, 8, 8, 8, 8, 8, 8, 8, 8, 8, 8, 8, 8, 8, 8, 8, 8, 8, 8, 8, 8, 8, 8, 8, 8, 8, 8, 8, 8, 8, 8, 8, 8, 8, 8, 8, 8, 8, 8, 8, 8, 8, 8, 8, 8, 8, 8, 8, 8, 8, 8, 8, 8, 8, 8, 8, 8, 8, 8, 8, 8, 8] (n : Int) = some (bitLen n : Int) := by
  have h : ∀ n : Fin 256, rdI [0, 1, 2, 2, 3, 3, 3, 3, 4, 4, 4, 4, 4, 4, 4, 4, 5, 5, 5, 5, 5, 5, 5, 5, 5, 5, 5, 5, 5, 5, 5, 5, 6, 6, 6, 6, 6, 6, 6, 6, 6, 6, 6, 6, 6, 6, 6, 6, 6, 6, 6, 6, 6, 6, 6, 6, 6, 6, 6, 6, 6, 6, 6, 6, 7, 7, 7, 7, 7, 7, 7, 7, 7, 7, 7, 7, 7, 7, 7, 7, 7, 7, 7, 7, 7, 7, 7, 7, 7, 7, 7, 7, 7, 7, 7, 7, 7, 7, 7, 7, 7, 7, 7, 7, 7, 7, 7, 7, 7, 7, 7, 7, 7, 7, 7, 7, 7, 7, 7, 7, 7, 7, 7, 7, 7, 7, 7, 7, 8, 8, 8, 8, 8, 8, 8, 8, 8, 8, 8, 8, 8, 8, 8, 8, 8, 8, 8, 8, 8, 8, 8, 8, 8, 8, 8, 8, 8, 8, 8, 8, 8, 8, 8, 8, 8, 8, 8, 8, 8, 8, 8, 8, 8, 8, 8, 8, 8, 8, 8, 8, 8, 8, 8, 8, 8, 8, 8, 8, 8, 8, 8, 8, 8, 8, 8, 8, 8, 8, 8, 8, 8, 8, 8, 8, 8, 8, 8, 8, 8, 8, 8, 8, 8, 8, 8, 8, 8, 8, 8, 8, 8, 8, 8, 8, 8, 8, 8, 8, 8, 8, 8, 8, 8, 8, 8, 8, 8, 8, 8, 8, 8, 8, 8, 8, 8, 8, 8, 8, 8, 8, 8, 8, 8, 8, 8, 8] ((n.val : Nat) : Int) = some (bitLen n.val : Int) := by decide +kernel
  exact fun n hn => h ⟨n, hn⟩

theorem tabAt {n : Nat} (hn : n < 256) : rdI [0, 1, 2, 2, 3, 3, 3, 3, 4, 4, 4, 4, 4, 4, 4, 4, 5, 5, 5, 5, 5, 5, 5, 5, 5, 5, 5, 5, 5, 5, 5, 5, 6, 6, 6, 6, 6, 6, 6, 6, 6, 6, 6, 6, 6, 6, 6, 6, 6, 6, 6, 6, 6, 6, 6, 6, 6, 6, 6, 6, 6, 6, 6, 6, 7, 7, 7, 7, 7, 7, 7, 7, 7, 7, 7, 7, 7, 7, 7, 7, 7, 7, 7, 7, 7, 7, 7, 7, 7, 7, 7, 7, 7, 7, 7, 7, 7, 7, 7, 7, 7, 7, 7, 7, 7, 7, 7, 7, 7, 7, 7, 7, 7, 7, 7, 7, 7, 7, 7, 7, 7, 7, 7, 7, 7, 7, 7, 7, 8, 8, 8, 8, 8, 8, 8, 8, 8, 8, 8, 8, 8, 8, 8, 8, 8, 8, 8, 8, 8, 8, 8, 8, 8, 8, 8, 8, 8, 8, 8, 8, 8, 8, 8, 8, 8, 8, 8, 8, 8, 8, 8, 8, 8, 8, 8, 8, 8, 8, 8, 8, 8, 8, 8, 8, 8, 8, 8, 8, 8, 8, 8, 8, 8, 8, 8, 8, 8, 8, 8, 8, 8, 8, 8, 8, 8, 8, 8, 8, 8, 8, 8, 8, 8, 8, 8, 8, 8, 8, 8, 8, 8, 8, 8, 8, 8, 8, 8, 8, 8, 8, 8, 8, 8, 8, 8, 8, 8, 8, 8, 8, 8, 8, 8, 8, 8, 8, 8, 8, 8, 8, 8, 8, 8, 8, 8, 8] (IntKind.u8.wrap (n : Int)) = some (bitLen n : Int) := by
  rw [wrap_u8 (by omega) (by omega), tab_ok n hn]

theorem bitLen_le {n k : Nat} (h : n < 2 ^ k) : bitLen n ≤ k := by
  rcases (bitLen_spec n).2 with h2 | h2
  · omega
  · rcases Nat.lt_or_ge k (bitLen n) with h3 | h3
    · have := Nat.pow_le_pow_right (n := 2) (by omega) (show k ≤ bitLen n - 1 by omega)
      omega
    · exact h3

theorem wadd {a b : Nat} (h : a + b < 1000000000) : IntKind.i64.wrap ((a : Int) + (b : Int)) = ((a + b : Nat) : Int) := by
  rw [wrap_i64 (by omega) (by omega)]; omega
theorem wself {a : Nat} (h : a < 1000000000) : IntKind.i64.wrap (a : Int) = (a : Int) := wrap_i64 (by omega) (by omega)

theorem bits_Len64_ok {n : Nat} (h : n < 18446744073709551616) : bits_Len64 (n : Int) = some (((bitLen n : Int), ()), ()) := by
  have f32 : (n : Int).fdiv (2 ^ 32) = ((n / 4294967296 : Nat) : Int) := fdiv_pow n 32
  have l8 : ∀ m : Nat, m < 256 → bitLen m ≤ 8 := fun m hm => bitLen_le (by omega)
  have key : ∀ m : Nat, ∀ b : Nat, m < 4294967296 → b ≤ 32 →
      (bif (decide ((m : Int) ≥ 65536)) then
        (bif (decide ((m : Int).fdiv (2 ^ 16) ≥ 256)) then
          (rdI [0, 1, 2, 2, 3, 3, 3, 3, 4, 4, 4, 4, 4, 4, 4, 4, 5, 5, 5, 5, 5, 5, 5, 5, 5, 5, 5, 5, 5, 5, 5, 5, 6, 6, 6, 6, 6, 6, 6, 6, 6, 6, 6, 6, 6, 6, 6, 6, 6, 6, 6, 6, 6, 6, 6, 6, 6, 6, 6, 6, 6, 6, 6, 6, 7, 7, 7, 7, 7, 7, 7, 7, 7, 7, 7, 7, 7, 7, 7, 7, 7, 7, 7, 7, 7, 7, 7, 7, 7, 7, 7, 7, 7, 7, 7, 7, 7, 7, 7, 7, 7, 7, 7, 7, 7, 7, 7, 7, 7, 7, 7, 7, 7, 7, 7, 7, 7, 7, 7, 7, 7, 7, 7, 7, 7, 7, 7, 7, 8, 8, 8, 8, 8, 8, 8, 8, 8, 8, 8, 8, 8, 8, 8, 8, 8, 8, 8, 8, 8, 8, 8, 8, 8, 8, 8, 8, 8, 8, 8, 8, 8, 8, 8, 8, 8, 8, 8, 8, 8, 8, 8, 8, 8, 8, 8, 8, 8, 8, 8, 8, 8, 8, 8, 8, 8, 8, 8, 8, 8, 8, 8, 8, 8, 8, 8, 8, 8, 8, 8, 8, 8, 8, 8, 8, 8, 8, 8, 8, 8, 8, 8, 8, 8, 8, 8, 8, 8, 8, 8, 8, 8, 8, 8, 8, 8, 8, 8, 8, 8, 8, 8, 8, 8, 8, 8, 8, 8, 8, 8, 8, 8, 8, 8, 8, 8, 8, 8, 8, 8, 8, 8, 8, 8, 8, 8, 8] (IntKind.u8.wrap (((m : Int).fdiv (2 ^ 16)).fdiv (2 ^ 8)))).bind fun v => some (((IntKind.i64.wrap ((IntKind.i64.wrap ((IntKind.i64.wrap ((b : Int) + 16)) + 8)) + (IntKind.i64.wrap v))), ()), ())
        else (rdI [0, 1, 2, 2, 3, 3, 3, 3, 4, 4, 4, 4, 4, 4, 4, 4, 5, 5, 5, 5, 5, 5, 5, 5, 5, 5, 5, 5, 5, 5, 5, 5, 6, 6, 6, 6, 6, 6, 6, 6, 6, 6, 6, 6, 6, 6, 6, 6, 6, 6, 6, 6, 6, 6, 6, 6, 6, 6, 6, 6, 6, 6, 6, 6, 7, 7, 7, 7, 7, 7, 7, 7, 7, 7, 7, 7, 7, 7, 7, 7, 7, 7, 7, 7, 7, 7, 7, 7, 7, 7, 7, 7, 7, 7, 7, 7, 7, 7, 7, 7, 7, 7, 7, 7, 7, 7, 7, 7, 7, 7, 7, 7, 7, 7, 7, 7, 7, 7, 7, 7, 7, 7, 7, 7, 7, 7, 7, 7, 8, 8, 8, 8, 8, 8, 8, 8, 8, 8, 8, 8, 8, 8, 8, 8, 8, 8, 8, 8, 8, 8, 8, 8, 8, 8, 8, 8, 8, 8, 8, 8, 8, 8, 8, 8, 8, 8, 8, 8, 8, 8, 8, 8, 8, 8, 8, 8, 8, 8, 8, 8, 8, 8, 8, 8, 8, 8, 8, 8, 8, 8, 8, 8, 8, 8, 8, 8, 8, 8, 8, 8, 8, 8, 8, 8, 8, 8, 8, 8, 8, 8, 8, 8, 8, 8, 8, 8, 8, 8, 8, 8, 8, 8, 8, 8, 8, 8, 8, 8, 8, 8, 8, 8, 8, 8, 8, 8, 8, 8, 8, 8, 8, 8, 8, 8, 8, 8, 8, 8, 8, 8, 8, 8, 8, 8, 8, 8] (IntKind.u8.wrap ((m : Int).fdiv (2 ^ 16)))).bind fun v => some (((IntKind.i64.wrap ((IntKind.i64.wrap ((b : Int) + 16)) + (IntKind.i64.wrap v))), ()), ()))
      else (bif (decide ((m : Int) ≥ 256)) then
          (rdI [0, 1, 2, 2, 3, 3, 3, 3, 4, 4, 4, 4, 4, 4, 4, 4, 5, 5, 5, 5, 5, 5, 5, 5, 5, 5, 5, 5, 5, 5, 5, 5, 6, 6, 6, 6, 6, 6, 6, 6, 6, 6, 6, 6, 6, 6, 6, 6, 6, 6, 6, 6, 6, 6, 6, 6, 6, 6, 6, 6, 6, 6, 6, 6, 7, 7, 7, 7, 7, 7, 7, 7, 7, 7, 7, 7, 7, 7, 7, 7, 7, 7, 7, 7, 7, 7, 7, 7, 7, 7, 7, 7, 7, 7, 7, 7, 7, 7, 7, 7, 7, 7, 7, 7, 7, 7, 7, 7, 7, 7, 7, 7, 7, 7, 7, 7, 7, 7, 7, 7, 7, 7, 7, 7, 7, 7, 7, 7, 8, 8, 8, 8, 8, 8, 8, 8, 8, 8, 8, 8, 8, 8, 8, 8, 8, 8, 8, 8, 8, 8, 8, 8, 8, 8, 8, 8, 8, 8, 8, 8, 8, 8, 8, 8, 8, 8, 8, 8, 8, 8, 8, 8, 8, 8, 8, 8, 8, 8, 8, 8, 8, 8, 8, 8, 8, 8, 8, 8, 8, 8, 8, 8, 8, 8, 8, 8, 8, 8, 8, 8, 8, 8, 8, 8, 8, 8, 8, 8, 8, 8, 8, 8, 8, 8, 8, 8, 8, 8, 8, 8, 8, 8, 8, 8, 8, 8, 8, 8, 8, 8, 8, 8, 8, 8, 8, 8, 8, 8, 8, 8, 8, 8, 8, 8, 8, 8, 8, 8, 8, 8, 8, 8, 8, 8, 8, 8] (IntKind.u8.wrap ((m : Int).fdiv (2 ^ 8)))).bind fun v => some (((IntKind.i64.wrap ((IntKind.i64.wrap ((b : Int) + 8)) + (IntKind.i64.wrap v))), ()), ())
        else (rdI [0, 1, 2, 2, 3, 3, 3, 3, 4, 4, 4, 4, 4, 4, 4, 4, 5, 5, 5, 5, 5, 5, 5, 5, 5, 5, 5, 5, 5, 5, 5, 5, 6, 6, 6, 6, 6, 6, 6, 6, 6, 6, 6, 6, 6, 6, 6, 6, 6, 6, 6, 6, 6, 6, 6, 6, 6, 6, 6, 6, 6, 6, 6, 6, 7, 7, 7, 7, 7, 7, 7, 7, 7, 7, 7, 7, 7, 7, 7, 7, 7, 7, 7, 7, 7, 7, 7, 7, 7, 7, 7, 7, 7, 7, 7, 7, 7, 7, 7, 7, 7, 7, 7, 7, 7, 7, 7, 7, 7, 7, 7, 7, 7, 7, 7, 7, 7, 7, 7, 7, 7, 7, 7, 7, 7, 7, 7, 7, 8, 8, 8, 8, 8, 8, 8, 8, 8, 8, 8, 8, 8, 8, 8, 8, 8, 8, 8, 8, 8, 8, 8, 8, 8, 8, 8, 8, 8, 8, 8, 8, 8, 8, 8, 8, 8, 8, 8, 8, 8, 8, 8, 8, 8, 8, 8, 8, 8, 8, 8, 8, 8, 8, 8, 8, 8, 8, 8, 8, 8, 8, 8, 8, 8, 8, 8, 8, 8, 8, 8, 8, 8, 8, 8, 8, 8, 8, 8, 8, 8, 8, 8, 8, 8, 8, 8, 8, 8, 8, 8, 8, 8, 8, 8, 8, 8, 8, 8, 8, 8, 8, 8, 8, 8, 8, 8, 8, 8, 8, 8, 8, 8, 8, 8, 8, 8, 8, 8, 8, 8, 8, 8, 8, 8, 8, 8, 8] (IntKind.u8.wrap (m : Int))).bind fun v => some (((IntKind.i64.wrap ((b : Int) + (IntKind.i64.wrap v))), ()), ())) : Option ((Int × Unit) × Unit)) = some ((((b + bitLen m : Nat) : Int), ()), ()) := by
    intro m b hm hb
    have g16 : (m : Int).fdiv (2 ^ 16) = ((m / 65536 : Nat) : Int) := fdiv_pow m 16
    have g8 : (m : Int).fdiv (2 ^ 8) = ((m / 256 : Nat) : Int) := fdiv_pow m 8
    have g24 : ((m / 65536 : Nat) : Int).fdiv (2 ^ 8) = ((m / 65536 / 256 : Nat) : Int) := fdiv_pow _ 8
    rw [g16, g8, g24]
    have w16 : IntKind.i64.wrap ((b : Int) + 16) = ((b + 16 : Nat) : Int) := wadd (b := 16) (by omega)
    have w8 : IntKind.i64.wrap ((b : Int) + 8) = ((b + 8 : Nat) : Int) := wadd (b := 8) (by omega)
    have w24 : IntKind.i64.wrap (((b + 16 : Nat) : Int) + 8) = ((b + 16 + 8 : Nat) : Int) := wadd (b := 8) (by omega)
    rw [w16, w8, w24]
    by_cases h16 : 65536 ≤ m
    · rw [decide_eq_true (show (m : Int) ≥ 65536 by omega), cond_true]
      have s16 := bitLen_shift (n := m) (k := 16) h16
      rw [show (2 : Nat) ^ 16 = 65536 from rfl] at s16
      by_cases h8 : 256 ≤ m / 65536
      · have s8 := bitLen_shift (n := m / 65536) (k := 8) h8
        rw [show (2 : Nat) ^ 8 = 256 from rfl] at s8
        have := l8 (m / 65536 / 256) (by omega)
        rw [decide_eq_true (show ((m / 65536 : Nat) : Int) ≥ 256 by omega), cond_true, tabAt (by omega), Option.bind_some, wself (by omega), wadd (by omega), s16, s8]
        congr 4
        omega
      · have := l8 (m / 65536) (by omega)
        rw [decide_eq_false (show ¬ ((m / 65536 : Nat) : Int) ≥ 256 by omega), cond_false, tabAt (by omega), Option.bind_some, wself (by omega), wadd (by omega), s16]
        congr 4
        omega
    · rw [decide_eq_false (show ¬ (m : Int) ≥ 65536 by omega), cond_false]
      by_cases h8 : 256 ≤ m
      · have s8 := bitLen_shift (n := m) (k := 8) h8
        rw [show (2 : Nat) ^ 8 = 256 from rfl] at s8
        have := l8 (m / 256) (by omega)
        rw [decide_eq_true (show (m : Int) ≥ 256 by omega), cond_true, tabAt (by omega), Option.bind_some, wself (by omega), wadd (by omega), s8]
        congr 4
        omega
      · have := l8 m (by omega)
        rw [decide_eq_false (show ¬ (m : Int) ≥ 256 by omega), cond_false, tabAt (by omega), Option.bind_some, wself (by omega), wadd (by omega)]
  unfold bits_Len64
  by_cases hb : 4294967296 ≤ n
  · rw [decide_eq_true (show (n : Int) ≥ 4294967296 by omega), cond_true, f32]
    have := key (n / 4294967296) 32 (by omega) (by omega)
    have s32 := bitLen_shift (n := n) (k := 32) hb
    rw [show (2 : Nat) ^ 32 = 4294967296 from rfl] at s32
    rw [s32]
    exact this
  · rw [decide_eq_false (show ¬ (n : Int) ≥ 4294967296 by omega), cond_false]
    have := key n 0 (by omega) (by omega)
    rw [Nat.zero_add] at this
    exact this

end Go.L

namespace Go.L
open Go Go.Pv
set_option maxRecDepth 100000

/-- the invariant of the search for a digit -/
structure Dig (u c y1 y0 q rh : Nat) : Prop where
  hc : c < 4294967296
  hy1 : 2147483648 ≤ y1
  hy1' : y1 < 4294967296
  hy0 : y0 < 4294967296
  hu : u < y1 * 4294967296 + y0
  hq : q ≤ 4294967297
  hI : q * y1 + rh = u
  hr : rh < 4294967296
  hQ : (u * 4294967296 + c) / (y1 * 4294967296 + y0) ≤ q

theorem or_add {a b s : Nat} (h : a % 2 ^ s = 0) (hb : b < 2 ^ s) (hab : a + b < 18446744073709551616) : bitsI .or .u64 (a : Int) (b : Int) = ((a + b : Nat) : Int) := by
  have key : (BitVec.ofInt 64 (a : Int) ||| BitVec.ofInt 64 (b : Int)).toNat = a + b := by
    rw [BitVec.toNat_or, BitVec.ofInt_natCast, BitVec.ofInt_natCast, BitVec.toNat_ofNat, BitVec.toNat_ofNat, Nat.mod_eq_of_lt (show a < 2 ^ 64 by omega), Nat.mod_eq_of_lt (show b < 2 ^ 64 by omega)]
    have := Nat.shiftLeft_add_eq_or_of_lt hb (a / 2 ^ s)
    rw [Nat.shiftLeft_eq, Nat.div_mul_cancel (Nat.dvd_of_mod_eq_zero h)] at this
    exact this.symm
  show IntKind.u64.wrap (((BitVec.ofInt 64 (a : Int) ||| BitVec.ofInt 64 (b : Int)).toNat : Nat) : Int) = _
  rw [key, wu64 hab]

end Go.L

namespace Go.L
open Go Go.Pv
set_option maxRecDepth 100000

/-! ### lists by their places -/
def lrow {α : Type} (n : Nat) (f : Nat → α) : List α := (List.range n).map f

theorem lrow_len {α : Type} (n : Nat) (f : Nat → α) : (lrow n f).length = n := by simp [lrow]

theorem lrow_get {α : Type} {n : Nat} (f : Nat → α) {i : Nat} (h : i < n) : (lrow n f)[i]? = some (f i) := by simp [lrow, h]

theorem lrow_ext {α : Type} {n : Nat} {f g : Nat → α} (h : ∀ i, i < n → f i = g i) : lrow n f = lrow n g := by
  unfold lrow
  exact List.map_congr_left fun i hi => h i (List.mem_range.1 hi)

theorem lrow_rd {α : Type} {n : Nat} (f : Nat → α) {i : Nat} (h : i < n) : rdI (lrow n f) (i : Int) = some (f i) := by
  unfold rdI
  rw [if_pos (by omega)]
  simpa using lrow_get f h

/-! ### digits -/
def D (b w : Nat) : List Nat := if h : b < 2 ∨ w / b = 0 then [w % b] else (w % b) :: D b (w / b)
  termination_by w
  decreasing_by
  have hb : 2 ≤ b := by omega
  have hw : w ≠ 0 := fun e => h (.inr (by rw [e]; simp))
  exact Nat.div_lt_self (by omega) (by omega)

theorem D_eq {b w : Nat} (hb : 2 ≤ b) : D b w = (w % b) :: (if w / b = 0 then [] else D b (w / b)) := by
  rw [D]
  by_cases h : w / b = 0
  · rw [dif_pos (.inr h), if_pos h]
  · rw [dif_neg (by omega), if_neg h]

/-- a digit's sign -/
def chr (d : Nat) : Int := if d < 10 then 48 + d else 87 + d

/-- a word's text -/
def text (b w : Nat) : List Int := ((D b w).map chr).reverse

/-- what is left of a word, and the digits so far -/
def Sofar (b w0 w : Nat) (l : List Nat) : Prop := l ++ (if w = 0 ∧ l ≠ [] then [] else D b w) = D b w0

theorem Sofar.step {b w0 w : Nat} {l : List Nat} (hb : 2 ≤ b) (h : Sofar b w0 w l) (hc : ¬ (w = 0 ∧ l ≠ [])) : Sofar b w0 (w / b) (l ++ [w % b]) := by
  unfold Sofar at *
  rw [if_neg hc, D_eq hb] at h
  rw [← h, List.append_assoc]
  congr 1
  by_cases h0 : w / b = 0
  · rw [if_pos ⟨h0, by simp⟩, if_pos h0]; rfl
  · rw [if_neg (fun h => h0 h.1), if_neg h0]; rfl

theorem Sofar.len {b w0 w : Nat} {l : List Nat} (h : Sofar b w0 w l) : l.length ≤ (D b w0).length := by
  rw [← h, List.length_append]; omega

end Go.L

namespace Go.L
open Go Go.Pv
set_option maxRecDepth 100000

/-! ### bit by bit -/
theorem u64_bv {z : Nat} (hz : z < 18446744073709551616) {b : BitVec 64} (h : ∀ i, i < 64 → b.getLsbD i = z.testBit i) : IntKind.u64.wrap (b.toNat : Int) = (z : Int) := by
  have : b = BitVec.ofNat 64 z := by
    apply BitVec.eq_of_getLsbD_eq
    intro i hi
    rw [h i hi, BitVec.getLsbD_ofNat]
    simp [hi]
  rw [this, BitVec.toNat_ofNat, Nat.mod_eq_of_lt (show z < 2 ^ 64 by omega), wu64 hz]

theorem and64 {x y : Nat} (hx : x < 18446744073709551616) (hy : y < 18446744073709551616) : bitsI .and .u64 (x : Int) (y : Int) = ((x &&& y : Nat) : Int) := by
  change IntKind.u64.wrap ((BitVec.ofInt 64 (x : Int) &&& BitVec.ofInt 64 (y : Int)).toNat : Int) = _
  rw [BitVec.ofInt_natCast, BitVec.ofInt_natCast]
  exact u64_bv (Nat.and_lt_two_pow (n := 64) x hy) fun i hi => by simp only [BitVec.getLsbD_and, BitVec.getLsbD_or, BitVec.getLsbD_xor, BitVec.getLsbD_ofNat, hi, decide_true, Bool.true_and, Nat.testBit_and, Nat.testBit_or, Nat.testBit_xor]

theorem or64 {x y : Nat} (hx : x < 18446744073709551616) (hy : y < 18446744073709551616) : bitsI .or .u64 (x : Int) (y : Int) = ((x ||| y : Nat) : Int) := by
  change IntKind.u64.wrap ((BitVec.ofInt 64 (x : Int) ||| BitVec.ofInt 64 (y : Int)).toNat : Int) = _
  rw [BitVec.ofInt_natCast, BitVec.ofInt_natCast]
  exact u64_bv (Nat.or_lt_two_pow (n := 64) hx hy) fun i hi => by simp only [BitVec.getLsbD_and, BitVec.getLsbD_or, BitVec.getLsbD_xor, BitVec.getLsbD_ofNat, hi, decide_true, Bool.true_and, Nat.testBit_and, Nat.testBit_or, Nat.testBit_xor]

theorem xor64 {x y : Nat} (hx : x < 18446744073709551616) (hy : y < 18446744073709551616) : bitsI .xor .u64 (x : Int) (y : Int) = ((x ^^^ y : Nat) : Int) := by
  change IntKind.u64.wrap ((BitVec.ofInt 64 (x : Int) ^^^ BitVec.ofInt 64 (y : Int)).toNat : Int) = _
  rw [BitVec.ofInt_natCast, BitVec.ofInt_natCast]
  exact u64_bv (Nat.xor_lt_two_pow (n := 64) hx hy) fun i hi => by simp only [BitVec.getLsbD_and, BitVec.getLsbD_or, BitVec.getLsbD_xor, BitVec.getLsbD_ofNat, hi, decide_true, Bool.true_and, Nat.testBit_and, Nat.testBit_or, Nat.testBit_xor]

/-- a number made of two halves -/
theorem wp_half (f : Bool → Bool → Bool) (hf : f false false = false) (g : Nat → Nat → Nat) (hg : ∀ x y i, (g x y).testBit i = f (x.testBit i) (y.testBit i)) (a b : Nat) :
    g a b / 18446744073709551616 = g (a / 18446744073709551616) (b / 18446744073709551616) ∧ g a b % 18446744073709551616 = g (a % 18446744073709551616) (b % 18446744073709551616) := by
  constructor
  · apply Nat.eq_of_testBit_eq
    intro i
    rw [show 18446744073709551616 = 2 ^ 64 from rfl, Nat.testBit_div_two_pow, hg, hg, Nat.testBit_div_two_pow, Nat.testBit_div_two_pow]
  · apply Nat.eq_of_testBit_eq
    intro i
    rw [show 18446744073709551616 = 2 ^ 64 from rfl, Nat.testBit_mod_two_pow, hg, hg, Nat.testBit_mod_two_pow, Nat.testBit_mod_two_pow]
    by_cases h : i < 64
    · simp [h]
    · simp [h, hf]

theorem word_And_ok {a b : Nat} (ha : a < 340282366920938463463374607431768211456) (hb : b < 340282366920938463463374607431768211456) : word_And (wp a) (wp b) = some ((wp (a &&& b), ()), ()) := by
  obtain ⟨h1, h2⟩ := wp_half and rfl (· &&& ·) (fun x y i => Nat.testBit_and x y i) a b
  unfold word_And wp
  dsimp only
  rw [and64 (by omega) (by omega), and64 (by omega) (by omega)]
  rw [h1, h2]

theorem word_Or_ok {a b : Nat} (ha : a < 340282366920938463463374607431768211456) (hb : b < 340282366920938463463374607431768211456) : word_Or (wp a) (wp b) = some ((wp (a ||| b), ()), ()) := by
  obtain ⟨h1, h2⟩ := wp_half or rfl (· ||| ·) (fun x y i => Nat.testBit_or x y i) a b
  unfold word_Or wp
  dsimp only
  rw [or64 (by omega) (by omega), or64 (by omega) (by omega)]
  rw [h1, h2]

theorem not64 {x : Nat} (hx : x < 18446744073709551616) : bitsI .xor .u64 IntKind.u64.max (x : Int) = ((18446744073709551615 - x : Nat) : Int) := by
  have hm : IntKind.u64.max = ((18446744073709551615 : Nat) : Int) := by decide
  rw [hm, xor64 (by omega) hx]
  congr 1
  apply Nat.eq_of_testBit_eq
  intro i
  rw [Nat.testBit_xor]
  have h := Nat.testBit_two_pow_sub_succ (n := 64) (x := x) (by omega) i
  rw [show 2 ^ 64 - (x + 1) = 18446744073709551615 - x by omega] at h
  rw [h]
  have h2 := Nat.testBit_two_pow_sub_one 64 i
  rw [show 2 ^ 64 - 1 = 18446744073709551615 from rfl] at h2
  rw [h2]
  by_cases hi : i < 64
  · simp [hi]
  · simp [hi]
    exact Nat.testBit_lt_two_pow (Nat.lt_of_lt_of_le hx (by rw [show 18446744073709551616 = 2 ^ 64 from rfl]; exact Nat.pow_le_pow_right (by omega) (by omega)))

theorem word_Not_ok {a : Nat} (ha : a < 340282366920938463463374607431768211456) : word_Not (wp a) = some ((wp (340282366920938463463374607431768211455 - a), ()), ()) := by
  unfold word_Not wp
  dsimp only
  rw [not64 (by omega), not64 (by omega)]
  refine congrArg some (Prod.ext (Prod.ext (Prod.ext ?_ (Prod.ext ?_ rfl)) rfl) rfl)
  · dsimp only; omega
  · dsimp only; omega

/-! ### moved -/
theorem shl64 {n k : Nat} (hk : k ≤ 64) : shlI .u64 (n : Int) (k : Int) = some (((n * 2 ^ k % 18446744073709551616 : Nat) : Int)) := by rw [shl_ok, Nat.min_eq_left hk]
theorem shr64 {n k : Nat} (hk : k ≤ 64) : shrI .u64 (n : Int) (k : Int) = some (((n / 2 ^ k : Nat) : Int)) := by rw [shr_ok, Nat.min_eq_left hk]

theorem pow_split {n : Nat} (h : n ≤ 64) : 2 ^ n * 2 ^ (64 - n) = 18446744073709551616 := by rw [← Nat.pow_add, show n + (64 - n) = 64 by omega]

theorem mod_div_pow (lo n : Nat) (h : n ≤ 64) (hlo : lo < 18446744073709551616) : lo * 2 ^ n / 18446744073709551616 = lo / 2 ^ (64 - n) := by
  rw [← pow_split h, Nat.mul_comm (2 ^ n), Nat.mul_div_mul_right _ _ (Nat.two_pow_pos n)]

theorem shl_g_ok {F G : (Int × Int × Unit) → Int → Option (((Int × Int × Unit) × Unit) × (Unit))} {a n : Nat} (ha : a < 340282366920938463463374607431768211456) : word_Shl_g F G (wp a) (n : Int) = some ((wp (if n < 128 then a * 2 ^ n % 340282366920938463463374607431768211456 else 0), ()), ()) := by
  unfold word_Shl_g
  have hpa : ((wp a).1, (wp a).2.1, ()) = wp a := rfl
  simp only [gsome, decide_eq_false (show ¬ (n : Int) ≤ -128 by omega), Bool.not_false, cond_true, cond_false, decide_eq_false (show ¬ (n : Int) < 0 by omega)]
  by_cases h128 : n < 128
  · rw [decide_eq_false (show ¬ (n : Int) ≥ 128 by omega), cond_false, if_pos h128]
    by_cases h0 : n = 0
    · subst h0
      rw [decide_eq_true (show ((0 : Nat) : Int) = 0 from rfl), cond_true, Nat.pow_zero, Nat.mul_one, Nat.mod_eq_of_lt ha]
    · rw [decide_eq_false (show ¬ (n : Int) = 0 by omega), cond_false]
      by_cases h64 : 64 ≤ n
      · rw [decide_eq_true (show (n : Int) ≥ 64 by omega), cond_true, show IntKind.i64.wrap ((n : Int) - 64) = ((n - 64 : Nat) : Int) by rw [wrap_i64 (by omega) (by omega)]; omega]
        unfold wp
        dsimp only
        rw [shl64 (by omega), Option.bind_some]
        have e : a * 2 ^ n = a * 2 ^ (n - 64) * 18446744073709551616 := by
          rw [show 18446744073709551616 = 2 ^ 64 from rfl, Nat.mul_assoc, ← Nat.pow_add, Nat.sub_add_cancel h64]
        rw [e]
        have e2 : a % 18446744073709551616 * 2 ^ (n - 64) % 18446744073709551616 = a * 2 ^ (n - 64) % 18446744073709551616 := Nat.mod_mul_mod a (2 ^ (n - 64)) 18446744073709551616
        rw [e2]
        generalize a * 2 ^ (n - 64) = m
        refine congrArg some (Prod.ext (Prod.ext (Prod.ext ?_ (Prod.ext ?_ rfl)) rfl) rfl)
        · dsimp only; first | done | omega
        · dsimp only; first | done | omega
      · rw [decide_eq_false (show ¬ (n : Int) ≥ 64 by omega), cond_false, show IntKind.i64.wrap (64 - (n : Int)) = ((64 - n : Nat) : Int) by rw [wrap_i64 (by omega) (by omega)]; omega]
        unfold wp
        dsimp only
        rw [shl64 (by omega), Option.bind_some, shr64 (by omega), Option.bind_some, shl64 (by omega), Option.bind_some]
        have hlo : a % 18446744073709551616 < 18446744073709551616 := Nat.mod_lt _ (by omega)
        have hs : a * 2 ^ n = a / 18446744073709551616 * 2 ^ n * 18446744073709551616 + a % 18446744073709551616 * 2 ^ n := by
          have : a = a / 18446744073709551616 * 18446744073709551616 + a % 18446744073709551616 := by omega
          rw [show a * 2 ^ n = (a / 18446744073709551616 * 18446744073709551616 + a % 18446744073709551616) * 2 ^ n by rw [← this], Nat.add_mul, Nat.mul_right_comm]
        have hd := mod_div_pow (a % 18446744073709551616) n (by omega) hlo
        have hlt : a % 18446744073709551616 / 2 ^ (64 - n) < 2 ^ n := by
          refine (Nat.div_lt_iff_lt_mul (Nat.two_pow_pos _)).2 ?_
          rw [pow_split (by omega)]; exact hlo
        have hmz : a / 18446744073709551616 * 2 ^ n % 18446744073709551616 % 2 ^ n = 0 := by
          rw [← pow_split (show n ≤ 64 by omega), Nat.mod_mul_right_mod, Nat.mul_mod_left]
        have hle : a / 18446744073709551616 * 2 ^ n % 18446744073709551616 + a % 18446744073709551616 / 2 ^ (64 - n) < 18446744073709551616 := by
          have h1 : a / 18446744073709551616 * 2 ^ n % 18446744073709551616 = 2 ^ n * (a / 18446744073709551616 % 2 ^ (64 - n)) := by
            rw [← pow_split (show n ≤ 64 by omega), Nat.mul_comm (a / (2 ^ n * 2 ^ (64 - n))) (2 ^ n), Nat.mul_mod_mul_left]
          have h2 : a / 18446744073709551616 % 2 ^ (64 - n) + 1 ≤ 2 ^ (64 - n) := Nat.mod_lt _ (Nat.two_pow_pos _)
          have h3 := Nat.mul_le_mul_left (2 ^ n) h2
          rw [pow_split (by omega), Nat.mul_add, Nat.mul_one, ← h1] at h3
          omega
        rw [or_add hmz hlt hle, hs, ← hd]
        generalize a / 18446744073709551616 * 2 ^ n = p at *
        generalize a % 18446744073709551616 * 2 ^ n = q at *
        clear hmz hlt hs hpa
        refine congrArg some (Prod.ext (Prod.ext (Prod.ext ?_ (Prod.ext ?_ rfl)) rfl) rfl)
        · dsimp only; omega
        · dsimp only; omega
  · rw [decide_eq_true (show (n : Int) ≥ 128 by omega), cond_true, if_neg h128]
    rfl

theorem shr_g_ok {F G : (Int × Int × Unit) → Int → Option (((Int × Int × Unit) × Unit) × (Unit))} {a n : Nat} (ha : a < 340282366920938463463374607431768211456) : word_Shr_g F G (wp a) (n : Int) = some ((wp (a / 2 ^ n), ()), ()) := by
  unfold word_Shr_g
  simp only [gsome, decide_eq_false (show ¬ (n : Int) ≤ -128 by omega), Bool.not_false, cond_true, cond_false, decide_eq_false (show ¬ (n : Int) < 0 by omega)]
  by_cases h128 : n < 128
  · rw [decide_eq_false (show ¬ (n : Int) ≥ 128 by omega), cond_false]
    by_cases h0 : n = 0
    · subst h0
      rw [decide_eq_true (show ((0 : Nat) : Int) = 0 from rfl), cond_true, Nat.pow_zero, Nat.div_one]
    · rw [decide_eq_false (show ¬ (n : Int) = 0 by omega), cond_false]
      by_cases h64 : 64 ≤ n
      · rw [decide_eq_true (show (n : Int) ≥ 64 by omega), cond_true, show IntKind.i64.wrap ((n : Int) - 64) = ((n - 64 : Nat) : Int) by rw [wrap_i64 (by omega) (by omega)]; omega]
        unfold wp
        dsimp only
        rw [shr64 (by omega), Option.bind_some]
        have e : a / 2 ^ n = a / 18446744073709551616 / 2 ^ (n - 64) := by
          rw [show 18446744073709551616 = 2 ^ 64 from rfl, Nat.div_div_eq_div_mul, ← Nat.pow_add, show 64 + (n - 64) = n by omega]
        have hlt : a / 2 ^ n < 18446744073709551616 := by rw [e]; exact Nat.lt_of_le_of_lt (Nat.div_le_self _ _) (by omega)
        rw [← e]
        generalize a / 2 ^ n = m at *
        refine congrArg some (Prod.ext (Prod.ext (Prod.ext ?_ (Prod.ext ?_ rfl)) rfl) rfl)
        · dsimp only; first | done | omega
        · dsimp only; first | done | omega
      · rw [decide_eq_false (show ¬ (n : Int) ≥ 64 by omega), cond_false, show IntKind.i64.wrap (64 - (n : Int)) = ((64 - n : Nat) : Int) by rw [wrap_i64 (by omega) (by omega)]; omega]
        unfold wp
        dsimp only
        rw [shr64 (by omega), Option.bind_some, shr64 (by omega), Option.bind_some, shl64 (by omega), Option.bind_some]
        have hp := Nat.two_pow_pos n
        have hq := Nat.two_pow_pos (64 - n)
        have hsp := pow_split (show n ≤ 64 by omega)
        have hl1 : a % 18446744073709551616 / 2 ^ n < 2 ^ (64 - n) := (Nat.div_lt_iff_lt_mul hp).2 (by rw [Nat.mul_comm, hsp]; exact Nat.mod_lt _ (by omega))
        have hm : a / 18446744073709551616 * 2 ^ (64 - n) % 18446744073709551616 = 2 ^ (64 - n) * (a / 18446744073709551616 % 2 ^ n) := by
          rw [← hsp, Nat.mul_comm (2 ^ n), Nat.mul_comm (a / (2 ^ (64 - n) * 2 ^ n)), Nat.mul_mod_mul_left]
        have hsum : 2 ^ (64 - n) * (a / 18446744073709551616 % 2 ^ n) + a % 18446744073709551616 / 2 ^ n < 18446744073709551616 := by
          have h2 : a / 18446744073709551616 % 2 ^ n + 1 ≤ 2 ^ n := Nat.mod_lt _ hp
          have h3 := Nat.mul_le_mul_left (2 ^ (64 - n)) h2
          rw [Nat.mul_comm (2 ^ (64 - n)) (2 ^ n), hsp, Nat.mul_add, Nat.mul_one] at h3
          omega
        have hor : bitsI .or .u64 ((a % 18446744073709551616 / 2 ^ n : Nat) : Int) ((a / 18446744073709551616 * 2 ^ (64 - n) % 18446744073709551616 : Nat) : Int) = ((2 ^ (64 - n) * (a / 18446744073709551616 % 2 ^ n) + a % 18446744073709551616 / 2 ^ n : Nat) : Int) := by
          rw [hm]
          have := or_add (a := 2 ^ (64 - n) * (a / 18446744073709551616 % 2 ^ n)) (b := a % 18446744073709551616 / 2 ^ n) (s := 64 - n) (Nat.mul_mod_right _ _) hl1 hsum
          rw [← this, or64 (by omega) (by omega), or64 (by omega) (by omega), Nat.or_comm]
        rw [hor]
        have hval : a / 2 ^ n = a / 18446744073709551616 / 2 ^ n * 18446744073709551616 + (2 ^ (64 - n) * (a / 18446744073709551616 % 2 ^ n) + a % 18446744073709551616 / 2 ^ n) := by
          have h1 : a = 18446744073709551616 * (a / 18446744073709551616) + a % 18446744073709551616 := by omega
          have h2 := Nat.div_add_mod (a / 18446744073709551616) (2 ^ n)
          have h3 := Nat.div_add_mod (a % 18446744073709551616) (2 ^ n)
          have hr := Nat.mod_lt (a % 18446744073709551616) hp
          refine ((Nat.div_mod_unique (a := a) (c := a % 18446744073709551616 % 2 ^ n) hp).2 ⟨?_, hr⟩).1
          generalize a / 18446744073709551616 = A at *
          generalize a % 18446744073709551616 = B at *
          rw [Nat.mul_add, Nat.mul_add, ← Nat.mul_assoc (2 ^ n) (2 ^ (64 - n)), hsp, ← Nat.mul_assoc]
          generalize 2 ^ n * (A / 2 ^ n) = p at *
          generalize 2 ^ n * (B / 2 ^ n) = q at *
          omega
        rw [hval]
        generalize 2 ^ (64 - n) * (a / 18446744073709551616 % 2 ^ n) + a % 18446744073709551616 / 2 ^ n = q at *
        generalize a / 18446744073709551616 / 2 ^ n = p at *
        clear hor hm hval hl1 hsp
        refine congrArg some (Prod.ext (Prod.ext (Prod.ext ?_ (Prod.ext ?_ rfl)) rfl) rfl)
        · dsimp only; omega
        · dsimp only; omega
  · rw [decide_eq_true (show (n : Int) ≥ 128 by omega), cond_true, Nat.div_eq_of_lt (Nat.lt_of_lt_of_le ha (by rw [show 340282366920938463463374607431768211456 = 2 ^ 128 from rfl]; exact Nat.pow_le_pow_right (by omega) (by omega)))]
    rfl

/-- moved by n places: up, or down -/
def moved (a : Nat) (n : Int) : Nat := if 0 ≤ n then (if n < 128 then a * 2 ^ n.toNat % 340282366920938463463374607431768211456 else 0) else a / 2 ^ (-n).toNat

end Go.L

namespace Go.L
open Go Go.Pv
set_option maxRecDepth 100000

theorem div_big {a n : Nat} (ha : a < 340282366920938463463374607431768211456) (h : 128 ≤ n) : a / 2 ^ n = 0 :=
  Nat.div_eq_of_lt (Nat.lt_of_lt_of_le ha (by rw [show 340282366920938463463374607431768211456 = 2 ^ 128 from rfl]; exact Nat.pow_le_pow_right (by omega) h))

theorem moved_lt {a : Nat} (ha : a < 340282366920938463463374607431768211456) (n : Int) : moved a n < 340282366920938463463374607431768211456 := by
  unfold moved
  split
  · split
    · exact Nat.mod_lt _ (by omega)
    · omega
  · exact Nat.lt_of_le_of_lt (Nat.div_le_self _ _) ha

theorem shl_g_neg {F G : (Int × Int × Unit) → Int → Option (((Int × Int × Unit) × Unit) × (Unit))} {a : Nat} {n : Int} (ha : a < 340282366920938463463374607431768211456) (hn : n < 0) (hG : ∀ k : Nat, G (wp a) (k : Int) = some ((wp (a / 2 ^ k), ()), ())) : word_Shl_g F G (wp a) n = some ((wp (a / 2 ^ (-n).toNat), ()), ()) := by
  have hpa : ((wp a).1, (wp a).2.1, ()) = wp a := rfl
  unfold word_Shl_g
  simp only [gsome]
  by_cases h : n ≤ -128
  · rw [decide_eq_true h, cond_true, cond_true, div_big ha (by omega)]
    rfl
  · rw [decide_eq_false h, Bool.not_false, cond_true, cond_false, decide_eq_false (show ¬ n ≥ 128 by omega), cond_false, decide_eq_true hn, cond_true, hpa, show IntKind.i64.wrap (0 - n) = (((-n).toNat : Nat) : Int) by rw [wrap_i64 (by omega) (by omega)]; omega, hG]
    rfl

theorem shr_g_neg {F G : (Int × Int × Unit) → Int → Option (((Int × Int × Unit) × Unit) × (Unit))} {a : Nat} {n : Int} (hn : n < 0) (hF : ∀ k : Nat, F (wp a) (k : Int) = some ((wp (if k < 128 then a * 2 ^ k % 340282366920938463463374607431768211456 else 0), ()), ())) : word_Shr_g F G (wp a) n = some ((wp (if -n < 128 then a * 2 ^ (-n).toNat % 340282366920938463463374607431768211456 else 0), ()), ()) := by
  have hpa : ((wp a).1, (wp a).2.1, ()) = wp a := rfl
  unfold word_Shr_g
  simp only [gsome]
  by_cases h : n ≤ -128
  · rw [decide_eq_true h, cond_true, cond_true, if_neg (by omega)]
    rfl
  · rw [decide_eq_false h, Bool.not_false, cond_true, cond_false, decide_eq_false (show ¬ n ≥ 128 by omega), cond_false, decide_eq_true hn, cond_true, hpa, show IntKind.i64.wrap (0 - n) = (((-n).toNat : Nat) : Int) by rw [wrap_i64 (by omega) (by omega)]; omega, hF, if_pos (show (-n).toNat < 128 by omega), if_pos (show -n < 128 by omega)]
    rfl

theorem word_Shl_ok {a : Nat} {n : Int} (ha : a < 340282366920938463463374607431768211456) : word_Shl (wp a) n = some ((wp (moved a n), ()), ()) := by
  show word_Shl_g (word_Shr_lv 2).1 (word_Shr_g (word_Shr_lv 1).1 (word_Shr_lv 1).2) (wp a) n = _
  unfold moved
  by_cases h : 0 ≤ n
  · obtain ⟨k, rfl⟩ : ∃ k : Nat, n = k := ⟨n.toNat, by omega⟩
    rw [shl_g_ok ha, if_pos h, Int.toNat_natCast]
    by_cases h2 : k < 128
    · rw [if_pos h2, if_pos (by omega)]
    · rw [if_neg h2, if_neg (by omega)]
  · rw [if_neg h, shl_g_neg ha (by omega) fun k => shr_g_ok ha]

theorem word_Shr_ok {a : Nat} {n : Int} (ha : a < 340282366920938463463374607431768211456) : word_Shr (wp a) n = some ((wp (moved a (-n)), ()), ()) := by
  show word_Shr_g (word_Shl_g (word_Shr_lv 1).1 (word_Shr_lv 1).2) (word_Shr_lv 2).2 (wp a) n = _
  unfold moved
  by_cases h : n < 0
  · rw [shr_g_neg h fun k => shl_g_ok ha, if_pos (show 0 ≤ -n by omega)]
  · obtain ⟨k, rfl⟩ : ∃ k : Nat, n = k := ⟨n.toNat, by omega⟩
    rw [shr_g_ok ha]
    by_cases h2 : k = 0
    · subst h2
      rw [if_pos (by omega), if_pos (by omega), show (-((0 : Nat) : Int)).toNat = 0 by omega, Nat.pow_zero, Nat.mul_one, Nat.div_one, Nat.mod_eq_of_lt ha]
    · rw [if_neg (by omega), show (-(-(k : Int))).toNat = k by omega]

theorem wp0 : ((0, 0, ()) : Int × Int × Unit) = wp 0 := rfl
theorem wp1 : ((0, 1, ()) : Int × Int × Unit) = wp 1 := rfl

theorem word_Ones_ok {n : Int} : word_Ones n = some ((wp (2 ^ min n.toNat 128 - 1), ()), ()) := by
  unfold word_Ones
  by_cases h : n ≤ 0
  · rw [decide_eq_true h, cond_true, show n.toNat = 0 by omega]
    rfl
  · rw [decide_eq_false h, cond_false]
    by_cases h2 : n ≥ 128
    · rw [decide_eq_true h2, cond_true, wp0, word_Not_ok (by omega), Nat.min_eq_right (by omega)]
      rfl
    · rw [decide_eq_false h2, cond_false, wp1, word_Shl_ok (by omega)]
      dsimp only [Option.bind_some]
      have hm : moved 1 n = 2 ^ n.toNat := by
        unfold moved
        rw [if_pos (by omega), if_pos (by omega), Nat.one_mul]
        refine Nat.mod_eq_of_lt ?_
        rw [show 340282366920938463463374607431768211456 = 2 ^ 128 from rfl]
        exact Nat.pow_lt_pow_right (by omega) (by omega)
      rw [word_Sub_ok (moved_lt (by omega) n) (by omega), hm, Nat.min_eq_left (by omega)]
      dsimp only [Option.bind_some]
      have hp := Nat.two_pow_pos n.toNat
      have hl : 2 ^ n.toNat < 340282366920938463463374607431768211456 := by
        rw [← hm]; exact moved_lt (by omega) n
      rw [show (2 ^ n.toNat + (340282366920938463463374607431768211456 - 1)) % 340282366920938463463374607431768211456 = 2 ^ n.toNat - 1 by omega]

theorem wp_eqb (a b : Nat) : (decide ((wp a).1 = (wp b).1) && decide ((wp a).2.1 = (wp b).2.1)) = decide (a = b) := by
  rw [← Bool.decide_and]
  refine decide_eq_decide.2 ⟨fun h => wp_inj (Prod.ext h.1 (Prod.ext h.2 rfl)), fun h => by rw [h]; exact ⟨rfl, rfl⟩⟩

/-- below, equal, above -/
def cmp (a b : Nat) : Int := if a = b then 0 else if a < b then -1 else 1

theorem word_Cmp_ok {a b : Nat} (ha : a < 340282366920938463463374607431768211456) (hb : b < 340282366920938463463374607431768211456) : word_Cmp (wp a) (wp b) = some ((cmp a b, ()), ()) := by
  have hpa : ((wp a).1, (wp a).2.1, ()) = wp a := rfl
  have hpb : ((wp b).1, (wp b).2.1, ()) = wp b := rfl
  unfold word_Cmp cmp
  rw [hpa, hpb, word_Sub_ok ha hb, Option.bind_some, wp_eqb]
  dsimp only
  by_cases h : a = b
  · rw [decide_eq_true h, cond_true, if_pos h]
  · rw [decide_eq_false h, cond_false, if_neg h]
    by_cases h2 : a < b
    · rw [decide_eq_true h2, cond_true, if_pos h2]
    · rw [decide_eq_false h2, cond_false, if_neg h2]

theorem word_Len_ok {a : Nat} (ha : a < 340282366920938463463374607431768211456) : word_Len (wp a) = some (((bitLen a : Int), ()), ()) := by
  unfold word_Len
  by_cases h : 18446744073709551616 ≤ a
  · rw [decide_eq_true (show (wp a).1 > 0 by show (((a / 18446744073709551616 : Nat)) : Int) > 0; omega), cond_true]
    show (bits_Len64 ((a / 18446744073709551616 : Nat) : Int)).bind _ = _
    rw [bits_Len64_ok (by omega), Option.bind_some]
    dsimp only
    have h1 := bitLen_shift (n := a) (k := 64) (by rw [show 2 ^ 64 = 18446744073709551616 from rfl]; exact h)
    rw [show 2 ^ 64 = 18446744073709551616 from rfl] at h1
    have h2 : bitLen (a / 18446744073709551616) ≤ 64 := bitLen_le (by rw [show 2 ^ 64 = 18446744073709551616 from rfl]; omega)
    rw [h1, show (64 : Int) + (bitLen (a / 18446744073709551616) : Int) = ((64 : Nat) : Int) + (bitLen (a / 18446744073709551616) : Int) from rfl, wadd (by omega)]
  · rw [decide_eq_false (show ¬ (wp a).1 > 0 by show ¬ (((a / 18446744073709551616 : Nat)) : Int) > 0; omega), cond_false]
    show (bits_Len64 ((a % 18446744073709551616 : Nat) : Int)).bind _ = _
    rw [Nat.mod_eq_of_lt (by omega), bits_Len64_ok (by omega), Option.bind_some]

end Go.L

namespace Go.L
open Go Go.Pv
set_option maxRecDepth 100000

theorem lrow_succ {α : Type} (n : Nat) (f : Nat → α) : lrow (n + 1) f = lrow n f ++ [f n] := by unfold lrow; rw [List.range_succ, List.map_append]; rfl
theorem lrow_zero {α : Type} (f : Nat → α) : lrow 0 f = [] := rfl
theorem lrow_add {α : Type} (m n : Nat) (f : Nat → α) : lrow (m + n) f = lrow m f ++ lrow n (fun j => f (m + j)) := by
  unfold lrow
  rw [List.range_add, List.map_append, List.map_map]
  rfl

theorem roomI_ok {α : Type} {xs ys : List α} (h : xs.length + ys.length ≤ 1000000000) : roomI 1 xs ys = some (xs ++ ys) := by
  unfold roomI
  rw [if_pos (by omega)]

theorem row_w (w : Nat) : rowB (BitVec.ofNat 128 w) = row w.testBit := row_ext fun i hi => by rw [BitVec.getLsbD_ofNat, decide_eq_true hi, Bool.true_and]

theorem wu8 (n : Int) : IntKind.u8.wrap n = n % 256 := by
  simp only [IntKind.wrap, IntKind.signed, IntKind.bits]
  simp

/-! ### vectors -/
def vw (w : Int) (x : Nat) : Int × Int × Int × Unit := (w, (wp x).1, (wp x).2.1, ())

/-- a vector's width and value are fit -/
def may (w : Int) (x : Nat) : Bool := decide ((1 ≤ w ∧ w ≤ 128) ∧ (bitLen x : Int) ≤ w)

theorem may_of {w : Int} {x : Nat} (h : may w x = true) : 1 ≤ w ∧ w ≤ 128 ∧ (bitLen x : Int) ≤ w := by
  have := of_decide_eq_true h
  omega

theorem vec_May_ok {w : Int} {x : Nat} (hx : x < 340282366920938463463374607431768211456) : vec_May (vw w x) = some ((may w x, ()), ()) := by
  unfold vec_May vec_width may vw
  simp only [gsome, Option.bind_some]
  by_cases h : 1 ≤ w ∧ w ≤ 128
  · simp only [decide_eq_true (show w ≥ 1 from h.1), decide_eq_true h.2, cond_true, gtrue]
    show ((vec_Word (w, (wp x).1, (wp x).2.1, ())).bind fun r_3 => (word_Len r_3.1.1).bind fun r_4 => some ((decide (r_4.1.1 ≤ w), ()), ())) = _
    unfold vec_Word
    rw [Option.bind_some]
    show ((word_Len (wp x)).bind fun r_4 => some ((decide (r_4.1.1 ≤ w), ()), ())) = _
    rw [word_Len_ok hx, Option.bind_some]
    congr 3
    exact decide_eq_decide.2 ⟨fun h2 => ⟨h, h2⟩, fun h2 => h2.2⟩
  · have e : (bif decide (w ≥ 1) then (bif decide (w ≥ 1) then decide (w ≤ 128) else false) else false) = false := by
      by_cases h : w ≥ 1
      · rw [decide_eq_true h, decide_eq_false (by omega)]; rfl
      · rw [decide_eq_false h]; rfl
    simp only [e, gfalse, cond_false]
    rw [decide_eq_false (fun h2 => h h2.1)]

theorem ref02_May_ok {w : Int} {x : Nat} (hx : x < 340282366920938463463374607431768211456) : ref02_May (vw w x) = some ((may w x, ()), ()) := by
  unfold ref02_May may vw
  simp only [gsome]
  by_cases h : 1 ≤ w ∧ w ≤ 128
  · simp only [decide_eq_true (show w ≥ 1 from h.1), decide_eq_true h.2, cond_true, gtrue]
    rw [of_wp hx, Option.bind_some]
    dsimp only
    rw [ref01_Len_ok, Option.bind_some, BitVec.toNat_ofNat, Nat.mod_eq_of_lt (show x < 2 ^ 128 from hx)]
    congr 3
    exact decide_eq_decide.2 ⟨fun h2 => ⟨h, h2⟩, fun h2 => h2.2⟩
  · have hr : may w x = false := decide_eq_false (fun h2 => h h2.1)
    unfold may at hr
    rw [hr]
    by_cases h1 : w ≥ 1
    · simp only [decide_eq_true h1, cond_true, decide_eq_false (show ¬ w ≤ 128 by omega), gfalse, cond_false]
    · simp only [decide_eq_false h1, cond_false, gfalse]

theorem ref02_Bits_ok {w : Int} {x : Nat} (hx : x < 340282366920938463463374607431768211456) : ref02_Bits (vw w x) = some ((lrow (min w 128).toNat x.testBit, ()), ()) := by
  unfold ref02_Bits vw
  dsimp only
  rw [of_wp hx, Option.bind_some]
  dsimp only
  rw [row_w]
  refine loop_up (fun i => (((lrow i x.testBit, (i : Int), ()), (w, (wp x).1, (wp x).2.1, ()), row x.testBit, ()) : ((List Bool) × Int × Unit) × ((Int × Int × Int × Unit) × (List Bool) × Unit))) (min w 128).toNat ?_ ?_ 0 (by omega)
  · intro i hi
    dsimp only
    unfold ref02_Bits_s0
    simp only [gsome]
    rw [decide_eq_true (show (i : Int) < w by omega), decide_eq_true (show (i : Int) < 128 by omega)]
    simp only [cond_true]
    rw [ck_nat (show i < 128 by omega), row_rd _ (show i < 128 by omega), Option.bind_some, roomI_ok (by rw [lrow_len]; simp only [List.length_cons, List.length_nil]; omega), Option.bind_some, ← lrow_succ, wi64 (by omega)]
  · dsimp only
    unfold ref02_Bits_s0
    simp only [gsome]
    have e : (bif decide ((((min w 128).toNat : Nat) : Int) < w) then (bif decide ((((min w 128).toNat : Nat) : Int) < w) then decide ((((min w 128).toNat : Nat) : Int) < 128) else false) else false) = false := by
      by_cases h : (((min w 128).toNat : Nat) : Int) < w
      · rw [decide_eq_true h, decide_eq_false (by omega)]; rfl
      · rw [decide_eq_false h]; rfl
    rw [e]
    rfl

theorem bit_out {x : Nat} {w i : Nat} (h : bitLen x ≤ w) (hi : w ≤ i) : x.testBit i = false :=
  Nat.testBit_lt_two_pow (Nat.lt_of_lt_of_le (bitLen_spec x).1 (Nat.pow_le_pow_right (by omega) (by omega)))

/-! ### bytes -/
/-- the lowest m bytes of a number, the high ones first -/
def be (n m : Nat) : List Int := lrow m fun j => ((n / 2 ^ (8 * (m - 1 - j)) % 256 : Nat) : Int)

/-- a number's lowest m bits, the high ones first -/
def high (n m : Nat) : List Bool := lrow m fun j => n.testBit (m - 1 - j)

theorem be_len (n m : Nat) : (be n m).length = m := lrow_len _ _
theorem high_len (n m : Nat) : (high n m).length = m := lrow_len _ _

theorem bit_add (n e k : Nat) : 2 * (n / 2 ^ (e + 1) % 2 ^ k) + (bif n.testBit e then 1 else 0) = n / 2 ^ e % 2 ^ (k + 1) := by
  have h1 : n / 2 ^ (e + 1) = n / 2 ^ e / 2 := by rw [Nat.pow_succ, Nat.div_div_eq_div_mul]
  have h2 : n.testBit e = decide (n / 2 ^ e % 2 = 1) := Nat.testBit_eq_decide_div_mod_eq
  rw [h1, h2, Nat.pow_succ, Nat.mul_comm (2 ^ k) 2, Nat.mod_mul]
  generalize n / 2 ^ e = m
  by_cases h : m % 2 = 1
  · rw [decide_eq_true h, cond_true]; omega
  · rw [decide_eq_false h, cond_false]; omega

theorem ref03_Bytes_ok {n m : Nat} (hm : m ≤ 10000) : ref03_Bytes (high n (8 * m)) = some ((be n m, ()), ()) := by
  unfold ref03_Bytes
  refine loop_up (fun i => (((high n (8 * m), lrow i (fun j => ((n / 2 ^ (8 * (m - 1 - j)) % 256 : Nat) : Int)), ((8 * i : Nat) : Int), ()), ()) : ((List Bool) × (List Int) × Int × Unit) × Unit)) m ?_ ?_ 0 (by omega)
  · intro i hi
    dsimp only
    unfold ref03_Bytes_s0
    rw [high_len, decide_eq_true (show ((8 * i : Nat) : Int) < ((8 * m : Nat) : Int) by omega), cond_true]
    have key := loop_up (f := fun (z : ((List Bool) × (List Int) × Int × Int × Int × Unit) × (Unit)) => ref03_Bytes_s2 z.1.1 z.1.2.1 z.1.2.2.1 z.1.2.2.2.1 z.1.2.2.2.2.1) (fun k => (((high n (8 * m), lrow i (fun j => ((n / 2 ^ (8 * (m - 1 - j)) % 256 : Nat) : Int)), ((8 * i : Nat) : Int), ((n / 2 ^ (8 * m - 8 * i - k) % 2 ^ k : Nat) : Int), ((8 * i + k : Nat) : Int), ()), ()))) 8 ?_ ?_ 0 (by omega) (r := (Sum.inl ((high n (8 * m), lrow (i + 1) (fun j => ((n / 2 ^ (8 * (m - 1 - j)) % 256 : Nat) : Int)), ((8 * (i + 1) : Nat) : Int), ()), ())))
    · rw [Nat.pow_zero, Nat.mod_one] at key
      exact key
    · intro k hk
      dsimp only
      unfold ref03_Bytes_s2
      have hlt : n / 2 ^ (8 * m - 8 * i - k) % 2 ^ k < 256 := Nat.lt_of_lt_of_le (Nat.mod_lt _ (Nat.two_pow_pos k)) (by rw [show 256 = 2 ^ 8 from rfl]; exact Nat.pow_le_pow_right (by omega) (by omega))
      have hs := bit_add n (8 * m - 8 * i - (k + 1)) k
      rw [show 8 * m - 8 * i - (k + 1) + 1 = 8 * m - 8 * i - k by omega] at hs
      have hb : rdI (high n (8 * m)) ((8 * i + k : Nat) : Int) = some (n.testBit (8 * m - 8 * i - (k + 1))) := by
        unfold high
        rw [lrow_rd _ (by omega), show 8 * m - 1 - (8 * i + k) = 8 * m - 8 * i - (k + 1) by omega]
      rw [show IntKind.i64.wrap (((8 * i : Nat) : Int) + 8) = ((8 * i + 8 : Nat) : Int) by rw [wrap_i64 (by omega) (by omega)]; omega, decide_eq_true (show ((8 * i + k : Nat) : Int) < ((8 * i + 8 : Nat) : Int) by omega), cond_true]
      simp only [gsome, high_len]
      rw [decide_eq_true (show ((8 * i + k : Nat) : Int) < ((8 * m : Nat) : Int) by omega)]
      simp only [cond_true, gtrue]
      rw [hb, Option.bind_some, wi64 (show 8 * i + k < 1000000000 by omega), ← hs]
      generalize n / 2 ^ (8 * m - 8 * i - k) % 2 ^ k = v at hlt
      cases n.testBit (8 * m - 8 * i - (k + 1))
      · simp only [cond_false]
        rw [wrap_i64 (by omega) (by omega)]
        rfl
      · simp only [cond_true]
        rw [wrap_i64 (n := 2 * (v : Int)) (by omega) (by omega), wrap_i64 (by omega) (by omega)]
        rfl
    · dsimp only
      unfold ref03_Bytes_s2
      rw [show IntKind.i64.wrap (((8 * i : Nat) : Int) + 8) = ((8 * i + 8 : Nat) : Int) by rw [wrap_i64 (by omega) (by omega)]; omega, decide_eq_false (show ¬ ((8 * i + 8 : Nat) : Int) < ((8 * i + 8 : Nat) : Int) by omega), cond_false, roomI_ok (by rw [lrow_len]; simp only [List.length_cons, List.length_nil]; omega), Option.bind_some]
      have hb : n / 2 ^ (8 * m - 8 * i - 8) % 2 ^ 8 < 256 := Nat.mod_lt _ (by omega)
      rw [wrap_u8 (by omega) (by omega), lrow_succ, show 8 * (m - 1 - i) = 8 * m - 8 * i - 8 by omega]
      rfl
  · dsimp only
    unfold ref03_Bytes_s0
    rw [high_len, decide_eq_false (show ¬ ((8 * m : Nat) : Int) < ((8 * m : Nat) : Int) by omega), cond_false]
    rfl

end Go.L

namespace Go.L
open Go Go.Pv
set_option maxRecDepth 100000

theorem bytes_Clone_ok {b : List Int} (h : b.length ≤ 1000000) : bytes_Clone b = some ((b, ()), ()) := by
  unfold bytes_Clone
  rw [roomI_ok (by simp only [List.length_nil]; omega)]
  cases b with
  | nil =>
    unfold amb
    simp
  | cons x l => rfl

theorem slices_Clip_ok {b : List Int} : slices_Clip_byte_byte b = some ((b, ()), ()) := by
  unfold slices_Clip_byte_byte
  dsimp only
  rw [if_pos rfl]
  unfold subL
  rw [if_pos (by omega)]
  simp

/-- the bits of an integer -/
def nat64 (n : Int) : Nat := (n % 18446744073709551616).toNat

theorem nat64_eq (n : Int) : ((nat64 n : Nat) : Int) = n % 18446744073709551616 := by unfold nat64; omega

theorem shr_byte {n : Int} {s : Nat} (hs : s ≤ 7) : (shrI .i64 n ((8 * s : Nat) : Int)).map IntKind.u8.wrap = some ((nat64 n / 2 ^ (8 * s) % 256 : Nat) : Int) := by
  unfold shrI
  rw [if_neg (by omega), Int.toNat_natCast, Option.map_some, wu8]
  congr 1
  have hn := nat64_eq n
  rw [show min (8 * s) IntKind.i64.bits = 8 * s by show min (8 * s) 64 = _; omega, Int.fdiv_eq_ediv_of_nonneg _ (by exact_mod_cast Nat.zero_le (2 ^ (8 * s)))]
  generalize nat64 n = N at hn
  have : s = 0 ∨ s = 1 ∨ s = 2 ∨ s = 3 ∨ s = 4 ∨ s = 5 ∨ s = 6 ∨ s = 7 := by omega
  rcases this with h | h | h | h | h | h | h | h <;> subst h <;> simp only [Nat.reduceMul, Nat.reducePow, Int.reducePow] <;> omega

theorem shr_byte' {n : Int} {s : Nat} (hs : s ≤ 7) {β : Type} (k : Int → Option β) : ((shrI .i64 n ((8 * s : Nat) : Int)).bind fun v => k (IntKind.u8.wrap v)) = k ((nat64 n / 2 ^ (8 * s) % 256 : Nat) : Int) := by
  have := shr_byte (n := n) hs
  cases h : shrI .i64 n ((8 * s : Nat) : Int) with
  | none => rw [h] at this; cases this
  | some v =>
    rw [h, Option.map_some] at this
    rw [Option.bind_some, Option.some.inj this]

theorem wire_put_ok {b : List Int} {n : Int} {m : Nat} (hb : b.length ≤ 1000000) (hm : m ≤ 8) : wire_put b n (m : Int) = some ((b ++ be (nat64 n) m, ()), ()) := by
  unfold wire_put
  rw [bytes_Clone_ok hb, Option.bind_some, slices_Clip_ok, Option.bind_some]
  have key := loop_up (f := fun (z : (Int × Int × (List Int) × Int × Int × Unit) × (Unit)) => wire_put_s0 z.1.1 z.1.2.1 z.1.2.2.1 z.1.2.2.2.1 z.1.2.2.2.2.1) (fun i => ((n, (m : Int), b ++ lrow i (fun j => ((nat64 n / 2 ^ (8 * (m - 1 - j)) % 256 : Nat) : Int)), (m : Int), (i : Int), ()), ())) m (r := ((b ++ be (nat64 n) m, ()), ())) ?_ ?_ 0 (by omega)
  · rw [lrow_zero, List.append_nil] at key
    exact key
  · intro i hi
    dsimp only
    unfold wire_put_s0
    rw [decide_eq_true (show (i : Int) < (m : Int) by omega), cond_true, show IntKind.i64.wrap (8 * IntKind.i64.wrap (IntKind.i64.wrap ((m : Int) - 1) - (i : Int))) = ((8 * (m - 1 - i) : Nat) : Int) by rw [wrap_i64 (n := (m : Int) - 1) (by omega) (by omega), wrap_i64 (n := (m : Int) - 1 - (i : Int)) (by omega) (by omega), wrap_i64 (by omega) (by omega)]; omega]
    have hsh := shr_byte' (n := n) (show m - 1 - i ≤ 7 by omega) (fun v => (roomI 1 (b ++ lrow i (fun j => ((nat64 n / 2 ^ (8 * (m - 1 - j)) % 256 : Nat) : Int))) [v]).bind fun v_9 => (some (Sum.inl ((n, (m : Int), v_9, (m : Int), (IntKind.i64.wrap ((i : Int) + 1)), ()), ())) : Option (((Int × Int × (List Int) × Int × Int × Unit) × (Unit)) ⊕ (((List Int) × Unit) × (Unit)))))
    rw [hsh, roomI_ok (by rw [List.length_append, lrow_len]; simp only [List.length_cons, List.length_nil]; omega), Option.bind_some, wi64 (by omega), List.append_assoc, ← lrow_succ]
  · dsimp only
    unfold wire_put_s0
    rw [decide_eq_false (show ¬ (m : Int) < (m : Int) by omega), cond_false]
    rfl

theorem ref07_Number_ok {n : Int} {m : Nat} (hm : m ≤ 8) : ref07_Number n (m : Int) = some ((be (nat64 n) m, ()), ()) := by
  unfold ref07_Number
  have hN : nat64 n < 18446744073709551616 := by unfold nat64; omega
  have hv : ((64, 0, IntKind.u64.wrap n, ()) : Int × Int × Int × Unit) = vw 64 (nat64 n) := by
    unfold vw wp
    rw [Nat.div_eq_of_lt hN, Nat.mod_eq_of_lt hN, wrapu, nat64_eq]
    rfl
  rw [hv, ref02_Bits_ok (by omega), Option.bind_some]
  dsimp only
  rw [show (min (64 : Int) 128).toNat = 64 from rfl, show IntKind.i64.wrap (IntKind.i64.wrap (8 * (m : Int)) - 1) = ((8 * m : Nat) : Int) - 1 by rw [wrap_i64 (n := 8 * (m : Int)) (by omega) (by omega), wrap_i64 (by omega) (by omega)]; omega]
  have key := loop_up (f := fun (z : ((List Bool) × (List Bool) × Int × Unit) × (Unit)) => ref07_Number_s0 z.1.1 z.1.2.1 z.1.2.2.1) (fun k => ((lrow 64 (nat64 n).testBit, lrow k (fun j => (nat64 n).testBit (8 * m - 1 - j)), ((8 * m : Nat) : Int) - 1 - (k : Int), ()), ())) (8 * m) (r := ((be (nat64 n) m, ()), ())) ?_ ?_ 0 (by omega)
  · rw [lrow_zero, show ((8 * m : Nat) : Int) - 1 - ((0 : Nat) : Int) = ((8 * m : Nat) : Int) - 1 by omega] at key
    exact key
  · intro k hk
    dsimp only
    unfold ref07_Number_s0
    rw [decide_eq_true (show ((8 * m : Nat) : Int) - 1 - (k : Int) ≥ 0 by omega), cond_true, show ((8 * m : Nat) : Int) - 1 - (k : Int) = ((8 * m - 1 - k : Nat) : Int) by omega, lrow_len, ck_nat (show 8 * m - 1 - k < 64 by omega), lrow_rd _ (show 8 * m - 1 - k < 64 by omega), Option.bind_some, roomI_ok (by rw [lrow_len]; simp only [List.length_cons, List.length_nil]; omega), Option.bind_some, ← lrow_succ, wrap_i64 (by omega) (by omega), show ((8 * m - 1 - k : Nat) : Int) - 1 = ((8 * m : Nat) : Int) - 1 - ((k + 1 : Nat) : Int) by omega]
  · dsimp only
    unfold ref07_Number_s0
    rw [decide_eq_false (show ¬ ((8 * m : Nat) : Int) - 1 - ((8 * m : Nat) : Int) ≥ 0 by omega), cond_false]
    have := ref03_Bytes_ok (n := nat64 n) (m := m) (by omega)
    unfold high at this
    rw [this]
    rfl

/-! ### vectors -/
/-- a vector's encoding -/
def enc (w : Int) (x : Nat) : List Int := bif may w x then w :: be x ((w.toNat + 7) / 8) else [0]

theorem be1 {n : Int} (h0 : 0 ≤ n) (h1 : n < 256) : be (nat64 n) 1 = [n] := by
  unfold be
  rw [lrow_succ, lrow_zero]
  show [((nat64 n / 2 ^ 0 % 256 : Nat) : Int)] = _
  rw [Nat.pow_zero, Nat.div_one]
  have := nat64_eq n
  congr 1
  omega

theorem enc_len (w : Int) (x : Nat) : (enc w x).length ≤ 17 := by
  unfold enc
  cases h : may w x
  · rw [cond_false]; simp
  · have := may_of h
    rw [cond_true, List.length_cons, be_len]
    omega

theorem wire_Vec_ok {b : List Int} {w : Int} {x : Nat} (hb : b.length ≤ 900000) (hx : x < 340282366920938463463374607431768211456) : wire_Vec b (vw w x) = some ((b ++ enc w x, ()), ()) := by
  unfold wire_Vec enc
  have hpv : ((vw w x).1, (vw w x).2.1, (vw w x).2.2.1, ()) = vw w x := rfl
  rw [hpv, vec_May_ok hx, Option.bind_some]
  cases h : may w x
  · have := wire_put_ok (n := 0) (m := 1) (show b.length ≤ 1000000 by omega) (by omega)
    rw [be1 (by omega) (by omega)] at this
    simp only [Bool.not_false, cond_true, cond_false]
    have e : wire_put b 0 1 = some ((b ++ [0], ()), ()) := this
    rw [e]
    rfl
  · obtain ⟨h1, h2, h3⟩ := may_of h
    have := wire_put_ok (n := w) (m := 1) (show b.length ≤ 1000000 by omega) (by omega)
    rw [be1 (by omega) (by omega)] at this
    simp only [Bool.not_true, cond_true, cond_false]
    have e : wire_put b (vw w x).1 1 = some ((b ++ [w], ()), ()) := this
    rw [e, Option.bind_some]
    unfold wire_room
    rw [Option.bind_some]
    dsimp only
    obtain ⟨W, rfl⟩ : ∃ W : Nat, w = W := ⟨w.toNat, by omega⟩
    rw [Int.toNat_natCast]
    generalize hm : (W + 7) / 8 = m
    rw [show (vw (W : Int) x).1 = (W : Int) from rfl, show IntKind.i64.wrap (IntKind.i64.wrap ((IntKind.i64.wrap (IntKind.i64.wrap ((W : Int) + 8) - 1)).tdiv 8) - 1) = (m : Int) - 1 by
      rw [wrap_i64 (n := (W : Int) + 8) (by omega) (by omega), wrap_i64 (n := (W : Int) + 8 - 1) (by omega) (by omega), Int.tdiv_eq_ediv_of_nonneg (by omega), wrap_i64 (n := ((W : Int) + 8 - 1) / 8) (by omega) (by omega), wrap_i64 (by omega) (by omega)]; omega]
    have key := loop_up (f := fun (z : ((List Int) × Int × Unit) × ((Int × Int × Int × Unit) × Unit)) => wire_Vec_s0 z.1.1 z.1.2.1 z.2.1) (fun k => ((b ++ [(W : Int)] ++ lrow k (fun j => ((x / 2 ^ (8 * (m - 1 - j)) % 256 : Nat) : Int)), (m : Int) - 1 - (k : Int), ()), vw (W : Int) x, ())) m (r := ((b ++ (W : Int) :: be x m, ()), ())) ?_ ?_ 0 (by omega)
    · rw [lrow_zero, List.append_nil, show (m : Int) - 1 - ((0 : Nat) : Int) = (m : Int) - 1 by omega] at key
      exact key
    · intro k hk
      dsimp only
      unfold wire_Vec_s0 vec_Word
      rw [decide_eq_true (show (m : Int) - 1 - (k : Int) ≥ 0 by omega), cond_true, Option.bind_some]
      dsimp only
      rw [show ((vw (W : Int) x).2.1, (vw (W : Int) x).2.2.1, ()) = wp x from rfl, word_Shr_ok hx, Option.bind_some, show (m : Int) - 1 - (k : Int) = ((m - 1 - k : Nat) : Int) by omega, show IntKind.i64.wrap (8 * ((m - 1 - k : Nat) : Int)) = ((8 * (m - 1 - k) : Nat) : Int) by rw [wrap_i64 (by omega) (by omega)]; omega]
      have hmv : moved x (-((8 * (m - 1 - k) : Nat) : Int)) = x / 2 ^ (8 * (m - 1 - k)) := by
        unfold moved
        by_cases h0 : m - 1 - k = 0
        · rw [h0, if_pos (by omega), if_pos (by omega), show (-((8 * 0 : Nat) : Int)).toNat = 0 from rfl, show 2 ^ (8 * 0) = 1 from rfl, Nat.mul_one, Nat.div_one, Nat.mod_eq_of_lt hx]
        · rw [if_neg (by omega), show (-(-((8 * (m - 1 - k) : Nat) : Int))).toNat = 8 * (m - 1 - k) by omega]
      have hu : IntKind.u8.wrap (wp (moved x (-((8 * (m - 1 - k) : Nat) : Int)))).2.1 = ((x / 2 ^ (8 * (m - 1 - k)) % 256 : Nat) : Int) := by
        rw [hmv]
        generalize x / 2 ^ (8 * (m - 1 - k)) = q
        rw [wu8]
        show ((q % 18446744073709551616 : Nat) : Int) % 256 = _
        omega
      dsimp only
      rw [hu, roomI_ok (by simp only [List.length_append, lrow_len, List.length_cons, List.length_nil]; omega), Option.bind_some, List.append_assoc, ← lrow_succ, wrap_i64 (by omega) (by omega), show ((m - 1 - k : Nat) : Int) - 1 = (m : Int) - 1 - ((k + 1 : Nat) : Int) by omega]
      rfl
    · dsimp only
      unfold wire_Vec_s0
      rw [decide_eq_false (show ¬ (m : Int) - 1 - (m : Int) ≥ 0 by omega), cond_false, List.append_assoc]
      rfl

theorem ref03_Of_ok {w : Int} {x : Nat} (h1 : 1 ≤ w) (h2 : w ≤ 128) (hx : x < 340282366920938463463374607431768211456) : ref03_Of (vw w x) = some ((high x w.toNat, ()), ()) := by
  unfold ref03_Of
  have hpv : ((vw w x).1, (vw w x).2.1, (vw w x).2.2.1, ()) = vw w x := rfl
  rw [hpv, ref02_Bits_ok hx, Option.bind_some]
  dsimp only
  obtain ⟨W, rfl⟩ : ∃ W : Nat, w = W := ⟨w.toNat, by omega⟩
  rw [show (min (W : Int) 128).toNat = W by omega, Int.toNat_natCast, lrow_len, wrap_i64 (by omega) (by omega)]
  have key := loop_up (f := fun (z : ((List Bool) × (List Bool) × Int × Unit) × (Unit)) => ref03_Of_s0 z.1.1 z.1.2.1 z.1.2.2.1) (fun k => ((lrow W x.testBit, lrow k (fun j => x.testBit (W - 1 - j)), (W : Int) - 1 - (k : Int), ()), ())) W (r := ((high x W, ()), ())) ?_ ?_ 0 (by omega)
  · rw [lrow_zero, show (W : Int) - 1 - ((0 : Nat) : Int) = (W : Int) - 1 by omega] at key
    exact key
  · intro k hk
    dsimp only
    unfold ref03_Of_s0
    rw [decide_eq_true (show (W : Int) - 1 - (k : Int) ≥ 0 by omega), cond_true, show (W : Int) - 1 - (k : Int) = ((W - 1 - k : Nat) : Int) by omega, lrow_len, ck_nat (show W - 1 - k < W by omega), lrow_rd _ (show W - 1 - k < W by omega), Option.bind_some, roomI_ok (by rw [lrow_len]; simp only [List.length_cons, List.length_nil]; omega), Option.bind_some, ← lrow_succ, wrap_i64 (by omega) (by omega), show ((W - 1 - k : Nat) : Int) - 1 = (W : Int) - 1 - ((k + 1 : Nat) : Int) by omega]
  · dsimp only
    unfold ref03_Of_s0
    rw [decide_eq_false (show ¬ (W : Int) - 1 - (W : Int) ≥ 0 by omega), cond_false]
    rfl

theorem pads {x W m : Nat} (hl : bitLen x ≤ W) (hm : m = (W + 7) / 8) : lrow (8 * m - W) (fun _ => false) ++ high x W = high x (8 * m) := by
  unfold high
  have e : lrow (8 * m) (fun j => x.testBit (8 * m - 1 - j)) = lrow (8 * m - W) (fun j => x.testBit (8 * m - 1 - j)) ++ lrow W (fun j => x.testBit (8 * m - 1 - (8 * m - W + j))) := by
    rw [← lrow_add, show 8 * m - W + W = 8 * m by omega]
  rw [e]
  congr 1
  · exact lrow_ext fun i hi => (bit_out hl (by omega)).symm
  · exact lrow_ext fun i hi => by rw [show 8 * m - 1 - (8 * m - W + i) = W - 1 - i by omega]

theorem ref07_Vec_ok {w : Int} {x : Nat} (hx : x < 340282366920938463463374607431768211456) : ref07_Vec (vw w x) = some ((enc w x, ()), ()) := by
  unfold ref07_Vec enc
  have hpv : ((vw w x).1, (vw w x).2.1, (vw w x).2.2.1, ()) = vw w x := rfl
  rw [hpv, ref02_May_ok hx, Option.bind_some]
  cases h : may w x
  · rfl
  · obtain ⟨h1, h2, h3⟩ := may_of h
    simp only [Bool.not_true, cond_false, cond_true]
    obtain ⟨W, rfl⟩ : ∃ W : Nat, w = W := ⟨w.toNat, by omega⟩
    rw [Int.toNat_natCast]
    generalize hm : (W + 7) / 8 = m
    have key := loop_up (f := fun (z : ((List Bool) × Unit) × ((Int × Int × Int × Unit) × Unit)) => ref07_Vec_s0 z.1.1 z.2.1) (fun k => ((lrow k (fun _ => false), ()), vw (W : Int) x, ())) (8 * m - W) (r := (((W : Int) :: be x m, ()), ())) ?_ ?_ 0 (by omega)
    · exact key
    · intro k hk
      dsimp only
      unfold ref07_Vec_s0
      rw [lrow_len, show (vw (W : Int) x).1 = (W : Int) from rfl, wrap_i64 (by omega) (by omega), Int.tmod_eq_emod_of_nonneg (by omega), decide_eq_false (show ¬ ((k : Int) + (W : Int)) % 8 = 0 by omega), Bool.not_false, cond_true, roomI_ok (by rw [lrow_len]; simp only [List.length_cons, List.length_nil]; omega), Option.bind_some, ← lrow_succ (f := fun _ => false)]
      rfl
    · dsimp only
      unfold ref07_Vec_s0
      rw [lrow_len, show (vw (W : Int) x).1 = (W : Int) from rfl, wrap_i64 (by omega) (by omega), Int.tmod_eq_emod_of_nonneg (by omega), decide_eq_true (show (((8 * m - W : Nat) : Int) + (W : Int)) % 8 = 0 by omega), Bool.not_true, cond_false]
      rw [show ((W : Int), (vw (W : Int) x).2.1, (vw (W : Int) x).2.2.1, ()) = vw (W : Int) x from rfl, ref03_Of_ok h1 h2 hx, Option.bind_some, Int.toNat_natCast]
      dsimp only
      rw [roomI_ok (by rw [lrow_len, high_len]; omega), Option.bind_some, pads (by omega) hm.symm, ref03_Bytes_ok (by omega), Option.bind_some]
      dsimp only
      rw [wrap_u8 (by omega) (by omega), roomI_ok (by rw [be_len]; simp only [List.length_cons, List.length_nil]; omega)]
      rfl

/-! ### names, lists -/
def encName (s : List Int) : List Int := if s.length ≤ 255 then (s.length : Int) :: s else [0]

theorem put1 {b : List Int} {n : Int} (hb : b.length ≤ 1000000) (h0 : 0 ≤ n) (h1 : n < 256) : wire_put b n 1 = some ((b ++ [n], ()), ()) := by
  have := wire_put_ok (n := n) (m := 1) hb (by omega)
  rw [be1 h0 h1] at this
  exact this

theorem wire_Name_ok {b s : List Int} (hb : b.length ≤ 900000) : wire_Name b s = some ((b ++ encName s, ()), ()) := by
  unfold wire_Name encName
  by_cases h : s.length ≤ 255
  · rw [decide_eq_false (show ¬ (s.length : Int) > 255 by omega), cond_false, put1 (by omega) (by omega) (by omega), Option.bind_some, if_pos h]
    dsimp only
    rw [roomI_ok (by simp only [List.length_append, List.length_cons, List.length_nil]; omega), Option.bind_some, List.append_assoc]
    rfl
  · rw [decide_eq_true (show (s.length : Int) > 255 by omega), cond_true, put1 (by omega) (by omega) (by omega), if_neg h]
    rfl

theorem ref07_Name_ok {s : List Int} : ref07_Name s = some ((encName s, ()), ()) := by
  unfold ref07_Name encName
  by_cases h : s.length ≤ 255
  · rw [decide_eq_false (show ¬ (s.length : Int) > 255 by omega), cond_false, wrap_u8 (by omega) (by omega), roomI_ok (by simp only [List.length_cons, List.length_nil]; omega), if_pos h]
    rfl
  · rw [decide_eq_true (show (s.length : Int) > 255 by omega), cond_true, if_neg h]

theorem take_succ_getD {α : Type} {l : List α} {i : Nat} (d : α) (h : i < l.length) : l.take (i + 1) = l.take i ++ [l.getD i d] := by
  rw [List.take_succ_eq_append_getElem h]
  simp [List.getD, List.getElem?_eq_getElem h]

theorem rd_getD' {α : Type} {l : List α} {i : Nat} (d : α) (h : i < l.length) : rdI l (i : Int) = some (l.getD i d) := by
  unfold rdI
  rw [if_pos (by omega)]
  simp [List.getD, List.getElem?_eq_getElem h]

def okV (v : Int × Int × Int × Unit) : Prop := inR .u64 v.2.1 = true ∧ inR .u64 v.2.2.1 = true

theorem okV_vw {v : Int × Int × Int × Unit} (h : okV v) : v.2.1.toNat * 18446744073709551616 + v.2.2.1.toNat < 340282366920938463463374607431768211456 ∧ v = vw v.1 (v.2.1.toNat * 18446744073709551616 + v.2.2.1.toNat) := by
  have h1 := u64_of h.1
  have h2 := u64_of h.2
  refine ⟨by omega, ?_⟩
  unfold vw wp
  refine Prod.ext rfl (Prod.ext ?_ (Prod.ext ?_ rfl))
  · dsimp only
    omega
  · dsimp only
    omega

theorem map_take {l : List Int} {i : Nat} (h : i < l.length) : (l.take (i + 1)).map IntKind.u8.wrap = (l.take i).map IntKind.u8.wrap ++ [IntKind.u8.wrap (l.getD i 0)] := by
  rw [take_succ_getD 0 h, List.map_append]
  rfl

end Go.L
