/- The functions that the statements reach as plain Lean, and what they compute. -/
import Derived.Test.YtplljenbabhjbaaQ8

set_option linter.unusedSimpArgs false
set_option linter.unusedVariables false

namespace Go.L
open Go Go.Pv
set_option maxRecDepth 100000

/-! ### loops that count -/
theorem loop_up {σ ρ : Type} {f : σ → Option (σ ⊕ ρ)} (st : Nat → σ) (n : Nat) {r : ρ} (step : ∀ i, i < n → f (st i) = some (.inl (st (i + 1)))) (stop : f (st n) = some (.inr r)) : ∀ k, k ≤ n → loopR f (st k) = some r := by
  intro k hk
  induction h : n - k generalizing k with
  | zero =>
    have : k = n := by omega
    subst this
    exact loopR_out stop
  | succ m ih => exact loopR_on (step k (by omega)) (ih (k + 1) (by omega) (by omega))

theorem ck_nat {β : Type} {i n : Nat} (h : i < n) (k : Int → Option β) : (Option.map (fun _ => (i : Int)) (ckI (i : Int) n)).bind k = k i := by
  unfold ckI
  rw [if_pos ⟨by omega, by omega⟩]
  rfl

theorem wi64 {i : Nat} (h : i < 1000000000) : IntKind.i64.wrap ((i : Int) + 1) = ((i + 1 : Nat) : Int) := by
  rw [wrap_i64 (by omega) (by omega)]; omega

theorem nbeq {i j : Nat} (h : i ≠ j) : Nat.beq i j = false := by
  cases hb : Nat.beq i j with
  | false => rfl
  | true => exact absurd (Nat.eq_of_beq_eq_true hb) h

/-! ### rows -/
def row (f : Nat → Bool) : List Bool := (List.range 128).map f

theorem row_len (f : Nat → Bool) : (row f).length = 128 := by simp [row]

theorem row_get (f : Nat → Bool) {i : Nat} (h : i < 128) : (row f)[i]? = some (f i) := by simp [row, h]

theorem row_ext {f g : Nat → Bool} (h : ∀ i, i < 128 → f i = g i) : row f = row g := by
  unfold row
  exact List.map_congr_left fun i hi => h i (List.mem_range.1 hi)

theorem row_rd (f : Nat → Bool) {i : Nat} (h : i < 128) : rdI (row f) (i : Int) = some (f i) := by
  unfold rdI
  rw [if_pos (by omega)]
  simpa using row_get f h

theorem row_st (f : Nat → Bool) {i : Nat} (h : i < 128) (v : Bool) : stI (row f) (i : Int) v = some (row fun j => bif Nat.beq j i then v else f j) := by
  unfold stI
  rw [if_pos ⟨by omega, by rw [row_len]; simpa using h⟩]
  congr 1
  apply List.ext_getElem?
  intro j
  rw [List.getElem?_set, Int.toNat_natCast]
  by_cases hj : j < 128
  · rw [row_get _ hj]
    by_cases e : i = j
    · subst e
      rw [if_pos rfl, if_pos (by rw [row_len]; exact hj), row_get _ hj, Nat.beq_refl]
      rfl
    · rw [if_neg e, row_get _ hj, nbeq (fun h => e h.symm)]
      rfl
  · have h1 : ∀ g : Nat → Bool, (row g)[j]? = none := fun g => List.getElem?_eq_none (by rw [row_len]; omega)
    rw [h1, h1, if_neg (by omega)]

theorem row_zero : List.replicate 128 false = row fun _ => false := by decide

/-- a number's bits -/
def rowB (x : BitVec 128) : List Bool := row x.getLsbD

/-- a row that is made bit by bit, from the lowest on -/
def bld (f : Nat → Bool) (i : Nat) : List Bool := row fun j => decide (j < i) && f j

theorem bld_st (f : Nat → Bool) {i : Nat} (hi : i < 128) {v : Bool} (hv : v = f i) : stI (bld f i) (i : Int) v = some (bld f (i + 1)) := by
  unfold bld
  rw [row_st _ hi]
  congr 1
  refine row_ext fun j hj => ?_
  by_cases e : j = i
  · subst e; simp [hv]
  · rw [nbeq e]
    simp only [cond_false]
    congr 1
    by_cases h : j < i
    · simp [h]; omega
    · simp [h]; omega

theorem bld_zero (f : Nat → Bool) : bld f 0 = List.replicate 128 false := by rw [row_zero]; exact row_ext fun i _ => by simp
theorem gsome {α β : Type} (b : Bool) (v d : β) (k : β → Option α) : guardR b (some v) d k = k (bif b then v else d) := rfl
theorem gtrue {α β : Type} (x : Option β) (d : β) (k : β → Option α) : guardR true x d k = x.bind k := by cases x <;> rfl
theorem gfalse {α β : Type} (x : Option β) (d : β) (k : β → Option α) : guardR false x d k = k d := by cases x <;> rfl

theorem dlt {i n : Nat} (h : i < n) : decide ((i : Int) < (n : Int)) = true := decide_eq_true (by omega)
theorem dge (n : Nat) : decide ((n : Int) < (n : Int)) = false := decide_eq_false (by omega)

theorem wi64d {i : Nat} (h : i < 1000000000) : IntKind.i64.wrap ((i : Int) - 1) = (i : Int) - 1 := wrap_i64 (by omega) (by omega)

/-- a loop that counts down from n - 1 -/
theorem loop_down {σ ρ : Type} {f : σ → Option (σ ⊕ ρ)} (st : Nat → σ) (I : Nat → Prop) {r : ρ} (step : ∀ i, I (i + 1) → (f (st (i + 1)) = some (.inl (st i)) ∧ I i) ∨ f (st (i + 1)) = some (.inr r)) (stop : I 0 → f (st 0) = some (.inr r)) : ∀ n, I n → loopR f (st n) = some r
  | 0, h => loopR_out (stop h)
  | n + 1, h => by
    rcases step n h with ⟨h1, h2⟩ | h1
    · exact loopR_on h1 (loop_down st I step stop n h2)
    · exact loopR_out h1

theorem dpos (i : Nat) : decide ((((i + 1 : Nat) : Int) - 1) ≥ 0) = true := decide_eq_true (by omega)
theorem dneg : decide ((((0 : Nat) : Int) - 1) ≥ 0) = false := decide_eq_false (by omega)
theorem pm (i : Nat) : (((i + 1 : Nat) : Int) - 1) = (i : Int) := by omega

/-! ### how many bits -/
def bitLen (n : Nat) : Nat := if n = 0 then 0 else Nat.log2 n + 1

theorem ref01_Len_ok (x : BitVec 128) : ref01_Len (rowB x) = some (((bitLen x.toNat : Int), ()), ()) := by
  unfold ref01_Len
  have key := loop_down (f := fun (z : (Int × Unit) × ((List Bool) × Unit)) => ref01_Len_s0 z.1.1 z.2.1)
    (fun i => ((((i : Nat) : Int) - 1, ()), rowB x, ())) (fun i => i ≤ 128 ∧ x.toNat < 2 ^ i) (r := (((bitLen x.toNat : Int), ()), ())) ?_ ?_ 128 ⟨by omega, x.isLt⟩
  · exact key
  · intro i ⟨hi, hI⟩
    have hi' : i < 128 := by omega
    simp only
    unfold ref01_Len_s0
    rw [dpos, cond_true, pm, ck_nat hi', show rdI (rowB x) (i : Int) = some (x.getLsbD i) from row_rd _ hi', Option.bind_some]
    cases hb : x.getLsbD i with
    | true =>
      right
      rw [cond_true, wi64 (by omega)]
      have h2 : 2 ^ i ≤ x.toNat := Nat.ge_two_pow_of_testBit hb
      have h0 : x.toNat ≠ 0 := by have := Nat.two_pow_pos i; omega
      have : bitLen x.toNat = i + 1 := by
        unfold bitLen
        rw [if_neg h0]
        have := (Nat.log2_eq_iff h0).2 ⟨h2, hI⟩
        omega
      rw [this]
    | false =>
      left
      rw [cond_false, wi64d (by omega)]
      refine ⟨rfl, by omega, ?_⟩
      have h1 : x.toNat.testBit i = false := hb
      rw [Nat.testBit_eq_decide_div_mod_eq] at h1
      have h1 := of_decide_eq_false h1
      rw [Nat.pow_succ] at hI
      have h2 : x.toNat / 2 ^ i < 2 := Nat.div_lt_of_lt_mul (by omega)
      have h3 : x.toNat / 2 ^ i = 0 := by
        generalize x.toNat / 2 ^ i = e at h1 h2
        omega
      exact (Nat.div_eq_zero_iff_lt (Nat.two_pow_pos i)).1 h3
  · intro ⟨_, hI⟩
    simp only
    unfold ref01_Len_s0
    have : x.toNat = 0 := by simpa using hI
    rw [dneg, cond_false, this]
    rfl

/-! ### rows of halves, halves of rows -/
theorem wu64 {n : Nat} (h : n < 18446744073709551616) : IntKind.u64.wrap (n : Int) = n := wrap_u64 (by omega) (by omega)

/-- the word of two halves -/
def wd (hi lo : Nat) : BitVec 128 := BitVec.ofNat 128 (hi * 2 ^ 64 + lo)

theorem wd_bit {hi lo : Nat} (h2 : lo < 2 ^ 64) {i : Nat} (hi' : i < 128) : (wd hi lo).getLsbD i = if i < 64 then lo.testBit i else hi.testBit (i - 64) := by
  simp only [wd, BitVec.getLsbD_ofNat, hi', decide_true, Bool.true_and]
  rw [Nat.mul_comm, Nat.testBit_two_pow_mul_add _ h2]

theorem tmod2 (n i : Nat) : decide ((((n / 2 ^ i : Nat) : Int).tmod 2) = 1) = n.testBit i := by
  rw [Nat.testBit_eq_decide_div_mod_eq]
  generalize n / 2 ^ i = e
  have : (e : Int).tmod 2 = ((e % 2 : Nat) : Int) := by
    rw [Int.tmod_eq_emod_of_nonneg (by omega)]; rfl
  rw [this]
  by_cases h : e % 2 = 1
  · rw [decide_eq_true h, decide_eq_true (by omega)]
  · rw [decide_eq_false h, decide_eq_false (by omega)]

theorem tdiv2 {n : Nat} (h : n < 18446744073709551616) (i : Nat) : IntKind.u64.wrap (((n / 2 ^ i : Nat) : Int).tdiv 2) = ((n / 2 ^ (i + 1) : Nat) : Int) := by
  rw [Nat.pow_succ, ← Nat.div_div_eq_div_mul]
  have : n / 2 ^ i ≤ n := Nat.div_le_self _ _
  generalize n / 2 ^ i = e at *
  rw [Int.tdiv_eq_ediv_of_nonneg (by omega)]
  have h2 : ((e : Int) / 2) = ((e / 2 : Nat) : Int) := by omega
  rw [h2, wu64 (by omega)]

theorem ref01_Of_ok {hi lo : Nat} (h1 : hi < 18446744073709551616) (h2 : lo < 18446744073709551616) : ref01_Of (hi : Int) (lo : Int) = some ((rowB (wd hi lo), ()), ()) := by
  unfold ref01_Of
  let g : Nat → List Bool := fun i => row fun j => if j < 64 then decide (j < i) && lo.testBit j else decide (j - 64 < i) && hi.testBit (j - 64)
  have key := loop_up (f := fun (z : (Int × Int × Int × Unit) × ((List Bool) × (List Bool) × Unit)) => ref01_Of_s0 z.1.1 z.1.2.1 z.1.2.2.1 z.2.1 z.2.2.1)
    (fun i => ((((hi / 2 ^ i : Nat) : Int), ((lo / 2 ^ i : Nat) : Int), (i : Int), ()), List.replicate 128 false, g i, ())) 64 (r := ((rowB (wd hi lo), ()), ())) ?_ ?_ 0 (by omega)
  · have h0 : g 0 = List.replicate 128 false := by rw [row_zero]; exact row_ext fun i _ => by simp
    simp only [h0, Nat.pow_zero, Nat.div_one] at key
    exact key
  · intro i hi'
    simp only
    unfold ref01_Of_s0
    rw [show decide ((i : Int) < 64) = true from decide_eq_true (by omega), cond_true, ck_nat (show i < 128 by omega)]
    have hw : IntKind.i64.wrap ((i : Int) + 64) = ((i + 64 : Nat) : Int) := by rw [wrap_i64 (by omega) (by omega)]; omega
    simp only [g]
    rw [row_st _ (show i < 128 by omega), Option.bind_some]
    simp only [hw]
    rw [ck_nat (show i + 64 < 128 by omega), row_st _ (show i + 64 < 128 by omega), Option.bind_some, tdiv2 h1, tdiv2 h2, tmod2, tmod2, wi64 (by omega)]
    congr 5
    refine row_ext fun j hj => ?_
    by_cases e : j = i + 64
    · subst e; simp
    · rw [nbeq e]
      by_cases e2 : j = i
      · subst e2; simp; omega
      · rw [nbeq e2]
        simp only [cond_false]
        by_cases h64 : j < 64
        · simp only [h64, if_true]
          congr 1
          by_cases hji : j < i
          · simp [hji]; omega
          · simp [hji]; omega
        · simp only [h64, if_false]
          congr 1
          by_cases hji : j - 64 < i
          · simp [hji]; omega
          · simp [hji]; omega
  · simp only
    unfold ref01_Of_s0
    rw [show decide (((64 : Nat) : Int) < 64) = false from decide_eq_false (by omega), cond_false]
    congr 4
    refine row_ext fun j hj => ?_
    rw [wd_bit h2 hj]
    by_cases h : j < 64
    · simp [h]
    · simp [h]; omega

theorem ref01_Halves_ok {hi lo : Nat} (h1 : hi < 18446744073709551616) (h2 : lo < 18446744073709551616) : ref01_Halves (rowB (wd hi lo)) = some (((hi : Int), (lo : Int), ()), ()) := by
  unfold ref01_Halves
  have hs : ∀ n i : Nat, n / 2 ^ i = 2 * (n / 2 ^ (i + 1)) + (if n.testBit i then 1 else 0) := by
    intro n i
    rw [Nat.testBit_eq_decide_div_mod_eq, Nat.pow_succ, ← Nat.div_div_eq_div_mul]
    have : n / 2 ^ i % 2 = 0 ∨ n / 2 ^ i % 2 = 1 := by omega
    rcases this with h | h <;> simp [h] <;> omega
  have hle : ∀ n i : Nat, n / 2 ^ i ≤ n := fun n i => Nat.div_le_self _ _
  have key := loop_down (f := fun (z : (Int × Int × Int × Unit) × ((List Bool) × Unit)) => ref01_Halves_s0 z.1.1 z.1.2.1 z.1.2.2.1 z.2.1)
    (fun i => ((((hi / 2 ^ i : Nat) : Int), ((lo / 2 ^ i : Nat) : Int), ((i : Nat) : Int) - 1, ()), rowB (wd hi lo), ())) (fun i => i ≤ 64) (r := (((hi : Int), (lo : Int), ()), ())) ?_ ?_ 64 (by omega)
  · have e1 : hi / 2 ^ 64 = 0 := Nat.div_eq_of_lt (by omega)
    have e2 : lo / 2 ^ 64 = 0 := Nat.div_eq_of_lt (by omega)
    simp only [e1, e2] at key
    exact key
  · intro i hi'
    left
    refine ⟨?_, by omega⟩
    simp only
    unfold ref01_Halves_s0
    rw [dpos, cond_true, pm]
    have hw : IntKind.i64.wrap ((i : Int) + 64) = ((i + 64 : Nat) : Int) := by rw [wrap_i64 (by omega) (by omega)]; omega
    have hb1 : rdI (rowB (wd hi lo)) ((i + 64 : Nat) : Int) = some (hi.testBit i) := by
      rw [show rdI (rowB (wd hi lo)) ((i + 64 : Nat) : Int) = some ((wd hi lo).getLsbD (i + 64)) from row_rd _ (by omega), wd_bit h2 (by omega), if_neg (by omega), Nat.add_sub_cancel]
    have hb2 : rdI (rowB (wd hi lo)) (i : Int) = some (lo.testBit i) := by
      rw [show rdI (rowB (wd hi lo)) (i : Int) = some ((wd hi lo).getLsbD i) from row_rd _ (by omega), wd_bit h2 (by omega), if_pos (by omega)]
    have q1 := hs hi i
    have q2 := hs lo i
    have l1 := hle hi i
    have l2 := hle lo i
    have m1 : IntKind.u64.wrap (2 * ((hi / 2 ^ (i + 1) : Nat) : Int)) = ((2 * (hi / 2 ^ (i + 1)) : Nat) : Int) := by
      rw [show (2 * ((hi / 2 ^ (i + 1) : Nat) : Int)) = ((2 * (hi / 2 ^ (i + 1)) : Nat) : Int) by omega, wu64 (by omega)]
    have m2 : IntKind.u64.wrap (2 * ((lo / 2 ^ (i + 1) : Nat) : Int)) = ((2 * (lo / 2 ^ (i + 1)) : Nat) : Int) := by
      rw [show (2 * ((lo / 2 ^ (i + 1) : Nat) : Int)) = ((2 * (lo / 2 ^ (i + 1)) : Nat) : Int) by omega, wu64 (by omega)]
    simp only [hw, m1, m2]
    simp only [ck_nat (show i + 64 < 128 by omega), ck_nat (show i < 128 by omega), hb1, hb2, wi64d (show i < 1000000000 by omega), Option.bind_some]
    generalize hi / 2 ^ i = a at *
    generalize lo / 2 ^ i = b at *
    generalize hi / 2 ^ (i + 1) = c at *
    generalize lo / 2 ^ (i + 1) = d at *
    clear hb1 hb2 hs hle
    generalize hi.testBit i = p at *
    generalize lo.testBit i = q at *
    cases p <;> cases q <;> simp only [cond_true, cond_false, if_true, if_false, Bool.false_eq_true, Nat.add_zero] at q1 q2 ⊢
    · rw [q1, q2]
    · rw [show ((2 * d : Nat) : Int) + 1 = ((b : Nat) : Int) by omega, wu64 (by omega), q1]
    · rw [show ((2 * c : Nat) : Int) + 1 = ((a : Nat) : Int) by omega, wu64 (by omega), q2]
    · rw [show ((2 * c : Nat) : Int) + 1 = ((a : Nat) : Int) by omega, wu64 (by omega), show ((2 * d : Nat) : Int) + 1 = ((b : Nat) : Int) by omega, wu64 (by omega)]
  · intro _
    simp only
    unfold ref01_Halves_s0
    rw [dneg, cond_false]
    simp

end Go.L

namespace Go.L
open Go Go.Pv
set_option maxRecDepth 100000

/-! ### the program's words as numbers -/
/-- the two halves of a number -/
def wp (w : Nat) : Int × Int × Unit := (((w / 18446744073709551616 : Nat) : Int), ((w % 18446744073709551616 : Nat) : Int), ())

theorem wp_inj {a b : Nat} (h : wp a = wp b) : a = b := by
  unfold wp at h
  simp only [Prod.mk.injEq, and_true] at h
  omega

theorem of_wp {w : Nat} (h : w < 340282366920938463463374607431768211456) : ref01_Of (wp w).1 (wp w).2.1 = some ((rowB (BitVec.ofNat 128 w), ()), ()) := by
  unfold wp
  simp only
  rw [ref01_Of_ok (by omega) (by omega)]
  unfold wd
  rw [show (2 : Nat) ^ 64 = 18446744073709551616 from by decide, show w / 18446744073709551616 * 18446744073709551616 + w % 18446744073709551616 = w by omega]

theorem bits_Sub64_eq : bits_Sub64 = sub64F := rfl

theorem word_Sub_ok {a b : Nat} (ha : a < 340282366920938463463374607431768211456) (hb : b < 340282366920938463463374607431768211456) :
    word_Sub (wp a) (wp b) = some ((wp ((a + (340282366920938463463374607431768211456 - b)) % 340282366920938463463374607431768211456), decide (a < b), ()), ()) := by
  unfold word_Sub wp
  simp only [bits_Sub64_eq, sub64F]
  rw [if_pos (by omega), Option.bind_some]
  simp only
  by_cases hlo : ((a % 18446744073709551616 : Nat) : Int) < ((b % 18446744073709551616 : Nat) : Int) + 0
  · rw [if_pos hlo, if_pos (by omega), Option.bind_some]
    dsimp only
    congr 3
    · congr 1
      · omega
      · congr 1; omega
    · congr 1
      by_cases h : a < b
      · rw [decide_eq_true h, decide_eq_true (by split <;> omega)]
      · rw [decide_eq_false h, decide_eq_false (by split <;> omega)]
  · rw [if_neg hlo, if_pos (by omega), Option.bind_some]
    dsimp only
    congr 3
    · congr 1
      · omega
      · congr 1; omega
    · congr 1
      by_cases h : a < b
      · rw [decide_eq_true h, decide_eq_true (by split <;> omega)]
      · rw [decide_eq_false h, decide_eq_false (by split <;> omega)]

end Go.L

namespace Go.L
open Go Go.Pv
set_option maxRecDepth 100000

theorem wrapu (n : Int) : IntKind.u64.wrap n = n % 18446744073709551616 := by
  simp only [IntKind.wrap, IntKind.signed, IntKind.bits]
  simp

theorem fdiv_pow (n k : Nat) : ((n : Int).fdiv (2 ^ k)) = ((n / 2 ^ k : Nat) : Int) := by
  rw [Int.fdiv_eq_ediv_of_nonneg _ (Int.le_of_lt (Int.pow_pos (by decide)))]
  simp

theorem shr_ok {n k : Nat} : shrI .u64 (n : Int) (k : Int) = some (((n / 2 ^ min k 64 : Nat) : Int)) := by
  unfold shrI
  rw [if_neg (by omega), Int.toNat_natCast]
  show some ((n : Int).fdiv (2 ^ (min k 64))) = _
  rw [fdiv_pow]

theorem shl_ok {n k : Nat} : shlI .u64 (n : Int) (k : Int) = some (((n * 2 ^ min k 64 % 18446744073709551616 : Nat) : Int)) := by
  unfold shlI
  rw [if_neg (by omega), Int.toNat_natCast]
  show some (IntKind.u64.wrap ((n : Int) * 2 ^ (min k 64))) = _
  rw [wrapu]
  congr 1

/-! ### how many bits a half has -/
theorem bitLen_of {n L : Nat} (h1 : n < 2 ^ L) (h2 : L = 0 ∨ 2 ^ (L - 1) ≤ n) : bitLen n = L := by
  unfold bitLen
  by_cases h : n = 0
  · subst h
    rcases h2 with rfl | h2
    · rfl
    · have := Nat.two_pow_pos (L - 1); omega
  · rw [if_neg h]
    have hL : L ≠ 0 := by rintro rfl; simp at h1; exact h h1
    have := (Nat.log2_eq_iff (k := L - 1) h).2 ⟨h2.resolve_left hL, by rw [Nat.sub_add_cancel (by omega)]; exact h1⟩
    omega

theorem bitLen_spec (n : Nat) : n < 2 ^ bitLen n ∧ (bitLen n = 0 ∨ 2 ^ (bitLen n - 1) ≤ n) := by
  unfold bitLen
  by_cases h : n = 0
  · subst h; simp
  · rw [if_neg h]
    have := (Nat.log2_eq_iff (k := Nat.log2 n) h).1 rfl
    exact ⟨this.2, .inr this.1⟩

theorem bitLen_shift {n k : Nat} (h : 2 ^ k ≤ n) : bitLen n = k + bitLen (n / 2 ^ k) := by
  obtain ⟨h1, h2⟩ := bitLen_spec (n / 2 ^ k)
  have hp := Nat.two_pow_pos k
  have h0 : 1 ≤ n / 2 ^ k := (Nat.le_div_iff_mul_le hp).2 (by omega)
  refine bitLen_of ?_ (.inr ?_)
  · rw [Nat.pow_add, Nat.mul_comm]
    exact (Nat.div_lt_iff_lt_mul hp).1 h1
  · rcases h2 with h2 | h2
    · rw [h2] at h1; omega
    · have hb : bitLen (n / 2 ^ k) ≠ 0 := fun e => by rw [e] at h1; omega
      rw [show k + bitLen (n / 2 ^ k) - 1 = (bitLen (n / 2 ^ k) - 1) + k by omega, Nat.pow_add]
      exact (Nat.le_div_iff_mul_le hp).1 h2

theorem tab_ok : ∀ n : Nat, n < 256 → rdI [0, 1, 2, 2, 3, 3, 3, 3, 4, 4, 4, 4, 4, 4, 4, 4, 5, 5, 5, 5, 5, 5, 5, 5, 5, 5, 5, 5, 5, 5, 5, 5, 6, 6, 6, 6, 6, 6, 6, 6, 6, 6, 6, 6, 6, 6, 6, 6, 6, 6, 6, 6, 6, 6, 6, 6, 6, 6, 6, 6, 6, 6, 6, 6, 7, 7, 7, 7, 7, 7, 7, 7, 7, 7, 7, 7, 7, 7, 7, 7, 7, 7, 7, 7, 7, 7, 7, 7, 7, 7, 7, 7, 7, 7, 7, 7, 7, 7, 7, 7, 7, 7, 7, 7, 7, 7, 7, 7, 7, 7, 7, 7, 7, 7, 7, 7, 7, 7, 7, 7, 7, 7, 7, 7, 7, 7, 7, 7, 8, 8, 8, 8, 8, 8, 8, 8, 8, 8, 8, 8, 8, 8, 8, 8, 8, 8, 8, 8, 8, 8, 8, 8, 8, 8, 8, 8, 8, 8, 8, 8, 8, 8, 8, 8, 8, 8, 8, 8, 8, 8, 8, 8, 8, 8, 8, 8, 8, 8, 8, 8, 8, 8, 8, 8, 8, 8, 8, 8, 8, 8, 8, 8, 8, 8, 8, 8, 8, 8, 8, 8, 8, 8, 8, 8, 8, 8, 8, 8, 8, 8, 8, 8, 8, 8, 8, 8, 8, 8, 8, 8, 8, 8, 8, 8, 8, 8, 8, 8, 8, 8, 8, 8, 8, 8, 8, 8, 8, 8, 8, 8, 8, 8, 8, 8, 8, 8, 8, 8, 8, 8, 8, 8, 8, 8, 8, 8] (n : Int) = some (bitLen n : Int) := by
  have h : ∀ n : Fin 256, rdI [0, 1, 2, 2, 3, 3, 3, 3, 4, 4, 4, 4, 4, 4, 4, 4, 5, 5, 5, 5, 5, 5, 5, 5, 5, 5, 5, 5, 5, 5, 5, 5, 6, 6, 6, 6, 6, 6, 6, 6, 6, 6, 6, 6, 6, 6, 6, 6, 6, 6, 6, 6, 6, 6, 6, 6, 6, 6, 6, 6, 6, 6, 6, 6, 7, 7, 7, 7, 7, 7, 7, 7, 7, 7, 7, 7, 7, 7, 7, 7, 7, 7, 7, 7, 7, 7, 7, 7, 7, 7, 7, 7, 7, 7, 7, 7, 7, 7, 7, 7, 7, 7, 7, 7, 7, 7, 7, 7, 7, 7, 7, 7, 7, 7, 7, 7, 7, 7, 7, 7, 7, 7, 7, 7, 7, 7, 7, 7, 8, 8, 8, 8, 8, 8, 8, 8, 8, 8, 8, 8, 8, 8, 8, 8, 8, 8, 8, 8, 8, 8, 8, 8, 8, 8, 8, 8, 8, 8, 8, 8, 8, 8, 8, 8, 8, 8, 8, 8, 8, 8, 8, 8, 8, 8, 8, 8, 8, 8, 8, 8, 8, 8, 8, 8, 8, 8, 8, 8, 8, 8, 8, 8, 8, 8, 8, 8, 8, 8, 8, 8, 8, 8, 8, 8, 8, 8, 8, 8, 8, 8, 8, 8, 8, 8, 8, 8, 8, 8, 8, 8, 8, 8, 8, 8, 8, 8, 8, 8, 8, 8, 8, 8, 8, 8, 8, 8, 8, 8, 8, 8, 8, 8, 8, 8, 8, 8, 8, 8, 8, 8, 8, 8, 8, 8, 8, 8] ((n.val : Nat) : Int) = some (bitLen n.val : Int) := by decide +kernel
  exact fun n hn => h ⟨n, hn⟩

theorem tabAt {n : Nat} (hn : n < 256) : rdI [0, 1, 2, 2, 3, 3, 3, 3, 4, 4, 4, 4, 4, 4, 4, 4, 5, 5, 5, 5, 5, 5, 5, 5, 5, 5, 5, 5, 5, 5, 5, 5, 6, 6, 6, 6, 6, 6, 6, 6, 6, 6, 6, 6, 6, 6, 6, 6, 6, 6, 6, 6, 6, 6, 6, 6, 6, 6, 6, 6, 6, 6, 6, 6, 7, 7, 7, 7, 7, 7, 7, 7, 7, 7, 7, 7, 7, 7, 7, 7, 7, 7, 7, 7, 7, 7, 7, 7, 7, 7, 7, 7, 7, 7, 7, 7, 7, 7, 7, 7, 7, 7, 7, 7, 7, 7, 7, 7, 7, 7, 7, 7, 7, 7, 7, 7, 7, 7, 7, 7, 7, 7, 7, 7, 7, 7, 7, 7, 8, 8, 8, 8, 8, 8, 8, 8, 8, 8, 8, 8, 8, 8, 8, 8, 8, 8, 8, 8, 8, 8, 8, 8, 8, 8, 8, 8, 8, 8, 8, 8, 8, 8, 8, 8, 8, 8, 8, 8, 8, 8, 8, 8, 8, 8, 8, 8, 8, 8, 8, 8, 8, 8, 8, 8, 8, 8, 8, 8, 8, 8, 8, 8, 8, 8, 8, 8, 8, 8, 8, 8, 8, 8, 8, 8, 8, 8, 8, 8, 8, 8, 8, 8, 8, 8, 8, 8, 8, 8, 8, 8, 8, 8, 8, 8, 8, 8, 8, 8, 8, 8, 8, 8, 8, 8, 8, 8, 8, 8, 8, 8, 8, 8, 8, 8, 8, 8, 8, 8, 8, 8, 8, 8, 8, 8, 8, 8] (IntKind.u8.wrap (n : Int)) = some (bitLen n : Int) := by
  rw [wrap_u8 (by omega) (by omega), tab_ok n hn]

theorem bitLen_le {n k : Nat} (h : n < 2 ^ k) : bitLen n ≤ k := by
  rcases (bitLen_spec n).2 with h2 | h2
  · omega
  · rcases Nat.lt_or_ge k (bitLen n) with h3 | h3
    · have := Nat.pow_le_pow_right (n := 2) (by omega) (show k ≤ bitLen n - 1 by omega)
      omega
    · exact h3

theorem wadd {a b : Nat} (h : a + b < 1000000000) : IntKind.i64.wrap ((a : Int) + (b : Int)) = ((a + b : Nat) : Int) := by
  rw [wrap_i64 (by omega) (by omega)]; omega
theorem wself {a : Nat} (h : a < 1000000000) : IntKind.i64.wrap (a : Int) = (a : Int) := wrap_i64 (by omega) (by omega)

theorem bits_Len64_ok {n : Nat} (h : n < 18446744073709551616) : bits_Len64 (n : Int) = some (((bitLen n : Int), ()), ()) := by
  have f32 : (n : Int).fdiv (2 ^ 32) = ((n / 4294967296 : Nat) : Int) := fdiv_pow n 32
  have l8 : ∀ m : Nat, m < 256 → bitLen m ≤ 8 := fun m hm => bitLen_le (by omega)
  have key : ∀ m : Nat, ∀ b : Nat, m < 4294967296 → b ≤ 32 →
      (bif (decide ((m : Int) ≥ 65536)) then
        (bif (decide ((m : Int).fdiv (2 ^ 16) ≥ 256)) then
          (rdI [0, 1, 2, 2, 3, 3, 3, 3, 4, 4, 4, 4, 4, 4, 4, 4, 5, 5, 5, 5, 5, 5, 5, 5, 5, 5, 5, 5, 5, 5, 5, 5, 6, 6, 6, 6, 6, 6, 6, 6, 6, 6, 6, 6, 6, 6, 6, 6, 6, 6, 6, 6, 6, 6, 6, 6, 6, 6, 6, 6, 6, 6, 6, 6, 7, 7, 7, 7, 7, 7, 7, 7, 7, 7, 7, 7, 7, 7, 7, 7, 7, 7, 7, 7, 7, 7, 7, 7, 7, 7, 7, 7, 7, 7, 7, 7, 7, 7, 7, 7, 7, 7, 7, 7, 7, 7, 7, 7, 7, 7, 7, 7, 7, 7, 7, 7, 7, 7, 7, 7, 7, 7, 7, 7, 7, 7, 7, 7, 8, 8, 8, 8, 8, 8, 8, 8, 8, 8, 8, 8, 8, 8, 8, 8, 8, 8, 8, 8, 8, 8, 8, 8, 8, 8, 8, 8, 8, 8, 8, 8, 8, 8, 8, 8, 8, 8, 8, 8, 8, 8, 8, 8, 8, 8, 8, 8, 8, 8, 8, 8, 8, 8, 8, 8, 8, 8, 8, 8, 8, 8, 8, 8, 8, 8, 8, 8, 8, 8, 8, 8, 8, 8, 8, 8, 8, 8, 8, 8, 8, 8, 8, 8, 8, 8, 8, 8, 8, 8, 8, 8, 8, 8, 8, 8, 8, 8, 8, 8, 8, 8, 8, 8, 8, 8, 8, 8, 8, 8, 8, 8, 8, 8, 8, 8, 8, 8, 8, 8, 8, 8, 8, 8, 8, 8, 8, 8] (IntKind.u8.wrap (((m : Int).fdiv (2 ^ 16)).fdiv (2 ^ 8)))).bind fun v => some (((IntKind.i64.wrap ((IntKind.i64.wrap ((IntKind.i64.wrap ((b : Int) + 16)) + 8)) + (IntKind.i64.wrap v))), ()), ())
        else (rdI [0, 1, 2, 2, 3, 3, 3, 3, 4, 4, 4, 4, 4, 4, 4, 4, 5, 5, 5, 5, 5, 5, 5, 5, 5, 5, 5, 5, 5, 5, 5, 5, 6, 6, 6, 6, 6, 6, 6, 6, 6, 6, 6, 6, 6, 6, 6, 6, 6, 6, 6, 6, 6, 6, 6, 6, 6, 6, 6, 6, 6, 6, 6, 6, 7, 7, 7, 7, 7, 7, 7, 7, 7, 7, 7, 7, 7, 7, 7, 7, 7, 7, 7, 7, 7, 7, 7, 7, 7, 7, 7, 7, 7, 7, 7, 7, 7, 7, 7, 7, 7, 7, 7, 7, 7, 7, 7, 7, 7, 7, 7, 7, 7, 7, 7, 7, 7, 7, 7, 7, 7, 7, 7, 7, 7, 7, 7, 7, 8, 8, 8, 8, 8, 8, 8, 8, 8, 8, 8, 8, 8, 8, 8, 8, 8, 8, 8, 8, 8, 8, 8, 8, 8, 8, 8, 8, 8, 8, 8, 8, 8, 8, 8, 8, 8, 8, 8, 8, 8, 8, 8, 8, 8, 8, 8, 8, 8, 8, 8, 8, 8, 8, 8, 8, 8, 8, 8, 8, 8, 8, 8, 8, 8, 8, 8, 8, 8, 8, 8, 8, 8, 8, 8, 8, 8, 8, 8, 8, 8, 8, 8, 8, 8, 8, 8, 8, 8, 8, 8, 8, 8, 8, 8, 8, 8, 8, 8, 8, 8, 8, 8, 8, 8, 8, 8, 8, 8, 8, 8, 8, 8, 8, 8, 8, 8, 8, 8, 8, 8, 8, 8, 8, 8, 8, 8, 8] (IntKind.u8.wrap ((m : Int).fdiv (2 ^ 16)))).bind fun v => some (((IntKind.i64.wrap ((IntKind.i64.wrap ((b : Int) + 16)) + (IntKind.i64.wrap v))), ()), ()))
      else (bif (decide ((m : Int) ≥ 256)) then
          (rdI [0, 1, 2, 2, 3, 3, 3, 3, 4, 4, 4, 4, 4, 4, 4, 4, 5, 5, 5, 5, 5, 5, 5, 5, 5, 5, 5, 5, 5, 5, 5, 5, 6, 6, 6, 6, 6, 6, 6, 6, 6, 6, 6, 6, 6, 6, 6, 6, 6, 6, 6, 6, 6, 6, 6, 6, 6, 6, 6, 6, 6, 6, 6, 6, 7, 7, 7, 7, 7, 7, 7, 7, 7, 7, 7, 7, 7, 7, 7, 7, 7, 7, 7, 7, 7, 7, 7, 7, 7, 7, 7, 7, 7, 7, 7, 7, 7, 7, 7, 7, 7, 7, 7, 7, 7, 7, 7, 7, 7, 7, 7, 7, 7, 7, 7, 7, 7, 7, 7, 7, 7, 7, 7, 7, 7, 7, 7, 7, 8, 8, 8, 8, 8, 8, 8, 8, 8, 8, 8, 8, 8, 8, 8, 8, 8, 8, 8, 8, 8, 8, 8, 8, 8, 8, 8, 8, 8, 8, 8, 8, 8, 8, 8, 8, 8, 8, 8, 8, 8, 8, 8, 8, 8, 8, 8, 8, 8, 8, 8, 8, 8, 8, 8, 8, 8, 8, 8, 8, 8, 8, 8, 8, 8, 8, 8, 8, 8, 8, 8, 8, 8, 8, 8, 8, 8, 8, 8, 8, 8, 8, 8, 8, 8, 8, 8, 8, 8, 8, 8, 8, 8, 8, 8, 8, 8, 8, 8, 8, 8, 8, 8, 8, 8, 8, 8, 8, 8, 8, 8, 8, 8, 8, 8, 8, 8, 8, 8, 8, 8, 8, 8, 8, 8, 8, 8, 8] (IntKind.u8.wrap ((m : Int).fdiv (2 ^ 8)))).bind fun v => some (((IntKind.i64.wrap ((IntKind.i64.wrap ((b : Int) + 8)) + (IntKind.i64.wrap v))), ()), ())
        else (rdI [0, 1, 2, 2, 3, 3, 3, 3, 4, 4, 4, 4, 4, 4, 4, 4, 5, 5, 5, 5, 5, 5, 5, 5, 5, 5, 5, 5, 5, 5, 5, 5, 6, 6, 6, 6, 6, 6, 6, 6, 6, 6, 6, 6, 6, 6, 6, 6, 6, 6, 6, 6, 6, 6, 6, 6, 6, 6, 6, 6, 6, 6, 6, 6, 7, 7, 7, 7, 7, 7, 7, 7, 7, 7, 7, 7, 7, 7, 7, 7, 7, 7, 7, 7, 7, 7, 7, 7, 7, 7, 7, 7, 7, 7, 7, 7, 7, 7, 7, 7, 7, 7, 7, 7, 7, 7, 7, 7, 7, 7, 7, 7, 7, 7, 7, 7, 7, 7, 7, 7, 7, 7, 7, 7, 7, 7, 7, 7, 8, 8, 8, 8, 8, 8, 8, 8, 8, 8, 8, 8, 8, 8, 8, 8, 8, 8, 8, 8, 8, 8, 8, 8, 8, 8, 8, 8, 8, 8, 8, 8, 8, 8, 8, 8, 8, 8, 8, 8, 8, 8, 8, 8, 8, 8, 8, 8, 8, 8, 8, 8, 8, 8, 8, 8, 8, 8, 8, 8, 8, 8, 8, 8, 8, 8, 8, 8, 8, 8, 8, 8, 8, 8, 8, 8, 8, 8, 8, 8, 8, 8, 8, 8, 8, 8, 8, 8, 8, 8, 8, 8, 8, 8, 8, 8, 8, 8, 8, 8, 8, 8, 8, 8, 8, 8, 8, 8, 8, 8, 8, 8, 8, 8, 8, 8, 8, 8, 8, 8, 8, 8, 8, 8, 8, 8, 8, 8] (IntKind.u8.wrap (m : Int))).bind fun v => some (((IntKind.i64.wrap ((b : Int) + (IntKind.i64.wrap v))), ()), ())) : Option ((Int × Unit) × Unit)) = some ((((b + bitLen m : Nat) : Int), ()), ()) := by
    intro m b hm hb
    have g16 : (m : Int).fdiv (2 ^ 16) = ((m / 65536 : Nat) : Int) := fdiv_pow m 16
    have g8 : (m : Int).fdiv (2 ^ 8) = ((m / 256 : Nat) : Int) := fdiv_pow m 8
    have g24 : ((m / 65536 : Nat) : Int).fdiv (2 ^ 8) = ((m / 65536 / 256 : Nat) : Int) := fdiv_pow _ 8
    rw [g16, g8, g24]
    have w16 : IntKind.i64.wrap ((b : Int) + 16) = ((b + 16 : Nat) : Int) := wadd (b := 16) (by omega)
    have w8 : IntKind.i64.wrap ((b : Int) + 8) = ((b + 8 : Nat) : Int) := wadd (b := 8) (by omega)
    have w24 : IntKind.i64.wrap (((b + 16 : Nat) : Int) + 8) = ((b + 16 + 8 : Nat) : Int) := wadd (b := 8) (by omega)
    rw [w16, w8, w24]
    by_cases h16 : 65536 ≤ m
    · rw [decide_eq_true (show (m : Int) ≥ 65536 by omega), cond_true]
      have s16 := bitLen_shift (n := m) (k := 16) h16
      rw [show (2 : Nat) ^ 16 = 65536 from rfl] at s16
      by_cases h8 : 256 ≤ m / 65536
      · have s8 := bitLen_shift (n := m / 65536) (k := 8) h8
        rw [show (2 : Nat) ^ 8 = 256 from rfl] at s8
        have := l8 (m / 65536 / 256) (by omega)
        rw [decide_eq_true (show ((m / 65536 : Nat) : Int) ≥ 256 by omega), cond_true, tabAt (by omega), Option.bind_some, wself (by omega), wadd (by omega), s16, s8]
        congr 4
        omega
      · have := l8 (m / 65536) (by omega)
        rw [decide_eq_false (show ¬ ((m / 65536 : Nat) : Int) ≥ 256 by omega), cond_false, tabAt (by omega), Option.bind_some, wself (by omega), wadd (by omega), s16]
        congr 4
        omega
    · rw [decide_eq_false (show ¬ (m : Int) ≥ 65536 by omega), cond_false]
      by_cases h8 : 256 ≤ m
      · have s8 := bitLen_shift (n := m) (k := 8) h8
        rw [show (2 : Nat) ^ 8 = 256 from rfl] at s8
        have := l8 (m / 256) (by omega)
        rw [decide_eq_true (show (m : Int) ≥ 256 by omega), cond_true, tabAt (by omega), Option.bind_some, wself (by omega), wadd (by omega), s8]
        congr 4
        omega
      · have := l8 m (by omega)
        rw [decide_eq_false (show ¬ (m : Int) ≥ 256 by omega), cond_false, tabAt (by omega), Option.bind_some, wself (by omega), wadd (by omega)]
  unfold bits_Len64
  by_cases hb : 4294967296 ≤ n
  · rw [decide_eq_true (show (n : Int) ≥ 4294967296 by omega), cond_true, f32]
    have := key (n / 4294967296) 32 (by omega) (by omega)
    have s32 := bitLen_shift (n := n) (k := 32) hb
    rw [show (2 : Nat) ^ 32 = 4294967296 from rfl] at s32
    rw [s32]
    exact this
  · rw [decide_eq_false (show ¬ (n : Int) ≥ 4294967296 by omega), cond_false]
    have := key n 0 (by omega) (by omega)
    rw [Nat.zero_add] at this
    exact this

end Go.L

namespace Go.L
open Go Go.Pv
set_option maxRecDepth 100000

/-- the invariant of the search for a digit -/
structure Dig (u c y1 y0 q rh : Nat) : Prop where
  hc : c < 4294967296
  hy1 : 2147483648 ≤ y1
  hy1' : y1 < 4294967296
  hy0 : y0 < 4294967296
  hu : u < y1 * 4294967296 + y0
  hq : q ≤ 4294967297
  hI : q * y1 + rh = u
  hr : rh < 4294967296
  hQ : (u * 4294967296 + c) / (y1 * 4294967296 + y0) ≤ q

theorem or_add {a b s : Nat} (h : a % 2 ^ s = 0) (hb : b < 2 ^ s) (hab : a + b < 18446744073709551616) : bitsI .or .u64 (a : Int) (b : Int) = ((a + b : Nat) : Int) := by
  have key : (BitVec.ofInt 64 (a : Int) ||| BitVec.ofInt 64 (b : Int)).toNat = a + b := by
    rw [BitVec.toNat_or, BitVec.ofInt_natCast, BitVec.ofInt_natCast, BitVec.toNat_ofNat, BitVec.toNat_ofNat, Nat.mod_eq_of_lt (show a < 2 ^ 64 by omega), Nat.mod_eq_of_lt (show b < 2 ^ 64 by omega)]
    have := Nat.shiftLeft_add_eq_or_of_lt hb (a / 2 ^ s)
    rw [Nat.shiftLeft_eq, Nat.div_mul_cancel (Nat.dvd_of_mod_eq_zero h)] at this
    exact this.symm
  show IntKind.u64.wrap (((BitVec.ofInt 64 (a : Int) ||| BitVec.ofInt 64 (b : Int)).toNat : Nat) : Int) = _
  rw [key, wu64 hab]

end Go.L

namespace Go.L
open Go Go.Pv
set_option maxRecDepth 100000

/-! ### lists by their places -/
def lrow {α : Type} (n : Nat) (f : Nat → α) : List α := (List.range n).map f

theorem lrow_len {α : Type} (n : Nat) (f : Nat → α) : (lrow n f).length = n := by simp [lrow]

theorem lrow_get {α : Type} {n : Nat} (f : Nat → α) {i : Nat} (h : i < n) : (lrow n f)[i]? = some (f i) := by simp [lrow, h]

theorem lrow_ext {α : Type} {n : Nat} {f g : Nat → α} (h : ∀ i, i < n → f i = g i) : lrow n f = lrow n g := by
  unfold lrow
  exact List.map_congr_left fun i hi => h i (List.mem_range.1 hi)

theorem lrow_rd {α : Type} {n : Nat} (f : Nat → α) {i : Nat} (h : i < n) : rdI (lrow n f) (i : Int) = some (f i) := by
  unfold rdI
  rw [if_pos (by omega)]
  simpa using lrow_get f h

/-! ### digits -/
def D (b w : Nat) : List Nat := if h : b < 2 ∨ w / b = 0 then [w % b] else (w % b) :: D b (w / b)
  termination_by w
  decreasing_by
  have hb : 2 ≤ b := by omega
  have hw : w ≠ 0 := fun e => h (.inr (by rw [e]; simp))
  exact Nat.div_lt_self (by omega) (by omega)

theorem D_eq {b w : Nat} (hb : 2 ≤ b) : D b w = (w % b) :: (if w / b = 0 then [] else D b (w / b)) := by
  rw [D]
  by_cases h : w / b = 0
  · rw [dif_pos (.inr h), if_pos h]
  · rw [dif_neg (by omega), if_neg h]

/-- a digit's sign -/
def chr (d : Nat) : Int := if d < 10 then 48 + d else 87 + d

/-- a word's text -/
def text (b w : Nat) : List Int := ((D b w).map chr).reverse

/-- what is left of a word, and the digits so far -/
def Sofar (b w0 w : Nat) (l : List Nat) : Prop := l ++ (if w = 0 ∧ l ≠ [] then [] else D b w) = D b w0

theorem Sofar.step {b w0 w : Nat} {l : List Nat} (hb : 2 ≤ b) (h : Sofar b w0 w l) (hc : ¬ (w = 0 ∧ l ≠ [])) : Sofar b w0 (w / b) (l ++ [w % b]) := by
  unfold Sofar at *
  rw [if_neg hc, D_eq hb] at h
  rw [← h, List.append_assoc]
  congr 1
  by_cases h0 : w / b = 0
  · rw [if_pos ⟨h0, by simp⟩, if_pos h0]; rfl
  · rw [if_neg (fun h => h0 h.1), if_neg h0]; rfl

theorem Sofar.len {b w0 w : Nat} {l : List Nat} (h : Sofar b w0 w l) : l.length ≤ (D b w0).length := by
  rw [← h, List.length_append]; omega

end Go.L

namespace Go.L
open Go Go.Pv
set_option maxRecDepth 100000

/-! ### bit by bit -/
theorem u64_bv {z : Nat} (hz : z < 18446744073709551616) {b : BitVec 64} (h : ∀ i, i < 64 → b.getLsbD i = z.testBit i) : IntKind.u64.wrap (b.toNat : Int) = (z : Int) := by
  have : b = BitVec.ofNat 64 z := by
    apply BitVec.eq_of_getLsbD_eq
    intro i hi
    rw [h i hi, BitVec.getLsbD_ofNat]
    simp [hi]
  rw [this, BitVec.toNat_ofNat, Nat.mod_eq_of_lt (show z < 2 ^ 64 by omega), wu64 hz]

theorem and64 {x y : Nat} (hx : x < 18446744073709551616) (hy : y < 18446744073709551616) : bitsI .and .u64 (x : Int) (y : Int) = ((x &&& y : Nat) : Int) := by
  change IntKind.u64.wrap ((BitVec.ofInt 64 (x : Int) &&& BitVec.ofInt 64 (y : Int)).toNat : Int) = _
  rw [BitVec.ofInt_natCast, BitVec.ofInt_natCast]
  exact u64_bv (Nat.and_lt_two_pow (n := 64) x hy) fun i hi => by simp only [BitVec.getLsbD_and, BitVec.getLsbD_or, BitVec.getLsbD_xor, BitVec.getLsbD_ofNat, hi, decide_true, Bool.true_and, Nat.testBit_and, Nat.testBit_or, Nat.testBit_xor]

theorem or64 {x y : Nat} (hx : x < 18446744073709551616) (hy : y < 18446744073709551616) : bitsI .or .u64 (x : Int) (y : Int) = ((x ||| y : Nat) : Int) := by
  change IntKind.u64.wrap ((BitVec.ofInt 64 (x : Int) ||| BitVec.ofInt 64 (y : Int)).toNat : Int) = _
  rw [BitVec.ofInt_natCast, BitVec.ofInt_natCast]
  exact u64_bv (Nat.or_lt_two_pow (n := 64) hx hy) fun i hi => by simp only [BitVec.getLsbD_and, BitVec.getLsbD_or, BitVec.getLsbD_xor, BitVec.getLsbD_ofNat, hi, decide_true, Bool.true_and, Nat.testBit_and, Nat.testBit_or, Nat.testBit_xor]

theorem xor64 {x y : Nat} (hx : x < 18446744073709551616) (hy : y < 18446744073709551616) : bitsI .xor .u64 (x : Int) (y : Int) = ((x ^^^ y : Nat) : Int) := by
  change IntKind.u64.wrap ((BitVec.ofInt 64 (x : Int) ^^^ BitVec.ofInt 64 (y : Int)).toNat : Int) = _
  rw [BitVec.ofInt_natCast, BitVec.ofInt_natCast]
  exact u64_bv (Nat.xor_lt_two_pow (n := 64) hx hy) fun i hi => by simp only [BitVec.getLsbD_and, BitVec.getLsbD_or, BitVec.getLsbD_xor, BitVec.getLsbD_ofNat, hi, decide_true, Bool.true_and, Nat.testBit_and, Nat.testBit_or, Nat.testBit_xor]

/-- a number made of two halves -/
theorem wp_half (f : Bool → Bool → Bool) (hf : f false false = false) (g : Nat → Nat → Nat) (hg : ∀ x y i, (g x y).testBit i = f (x.testBit i) (y.testBit i)) (a b : Nat) :
    g a b / 18446744073709551616 = g (a / 18446744073709551616) (b / 18446744073709551616) ∧ g a b % 18446744073709551616 = g (a % 18446744073709551616) (b % 18446744073709551616) := by
  constructor
  · apply Nat.eq_of_testBit_eq
    intro i
    rw [show 18446744073709551616 = 2 ^ 64 from rfl, Nat.testBit_div_two_pow, hg, hg, Nat.testBit_div_two_pow, Nat.testBit_div_two_pow]
  · apply Nat.eq_of_testBit_eq
    intro i
    rw [show 18446744073709551616 = 2 ^ 64 from rfl, Nat.testBit_mod_two_pow, hg, hg, Nat.testBit_mod_two_pow, Nat.testBit_mod_two_pow]
    by_cases h : i < 64
    · simp [h]
    · simp [h, hf]

theorem word_And_ok {a b : Nat} (ha : a < 340282366920938463463374607431768211456) (hb : b < 340282366920938463463374607431768211456) : word_And (wp a) (wp b) = some ((wp (a &&& b), ()), ()) := by
  obtain ⟨h1, h2⟩ := wp_half and rfl (· &&& ·) (fun x y i => Nat.testBit_and x y i) a b
  unfold word_And wp
  dsimp only
  rw [and64 (by omega) (by omega), and64 (by omega) (by omega)]
  rw [h1, h2]

theorem word_Or_ok {a b : Nat} (ha : a < 340282366920938463463374607431768211456) (hb : b < 340282366920938463463374607431768211456) : word_Or (wp a) (wp b) = some ((wp (a ||| b), ()), ()) := by
  obtain ⟨h1, h2⟩ := wp_half or rfl (· ||| ·) (fun x y i => Nat.testBit_or x y i) a b
  unfold word_Or wp
  dsimp only
  rw [or64 (by omega) (by omega), or64 (by omega) (by omega)]
  rw [h1, h2]

theorem not64 {x : Nat} (hx : x < 18446744073709551616) : bitsI .xor .u64 IntKind.u64.max (x : Int) = ((18446744073709551615 - x : Nat) : Int) := by
  have hm : IntKind.u64.max = ((18446744073709551615 : Nat) : Int) := by decide
  rw [hm, xor64 (by omega) hx]
  congr 1
  apply Nat.eq_of_testBit_eq
  intro i
  rw [Nat.testBit_xor]
  have h := Nat.testBit_two_pow_sub_succ (n := 64) (x := x) (by omega) i
  rw [show 2 ^ 64 - (x + 1) = 18446744073709551615 - x by omega] at h
  rw [h]
  have h2 := Nat.testBit_two_pow_sub_one 64 i
  rw [show 2 ^ 64 - 1 = 18446744073709551615 from rfl] at h2
  rw [h2]
  by_cases hi : i < 64
  · simp [hi]
  · simp [hi]
    exact Nat.testBit_lt_two_pow (Nat.lt_of_lt_of_le hx (by rw [show 18446744073709551616 = 2 ^ 64 from rfl]; exact Nat.pow_le_pow_right (by omega) (by omega)))

theorem word_Not_ok {a : Nat} (ha : a < 340282366920938463463374607431768211456) : word_Not (wp a) = some ((wp (340282366920938463463374607431768211455 - a), ()), ()) := by
  unfold word_Not wp
  dsimp only
  rw [not64 (by omega), not64 (by omega)]
  refine congrArg some (Prod.ext (Prod.ext (Prod.ext ?_ (Prod.ext ?_ rfl)) rfl) rfl)
  · dsimp only; omega
  · dsimp only; omega

/-! ### moved -/
theorem shl64 {n k : Nat} (hk : k ≤ 64) : shlI .u64 (n : Int) (k : Int) = some (((n * 2 ^ k % 18446744073709551616 : Nat) : Int)) := by rw [shl_ok, Nat.min_eq_left hk]
theorem shr64 {n k : Nat} (hk : k ≤ 64) : shrI .u64 (n : Int) (k : Int) = some (((n / 2 ^ k : Nat) : Int)) := by rw [shr_ok, Nat.min_eq_left hk]

theorem pow_split {n : Nat} (h : n ≤ 64) : 2 ^ n * 2 ^ (64 - n) = 18446744073709551616 := by rw [← Nat.pow_add, show n + (64 - n) = 64 by omega]

theorem mod_div_pow (lo n : Nat) (h : n ≤ 64) (hlo : lo < 18446744073709551616) : lo * 2 ^ n / 18446744073709551616 = lo / 2 ^ (64 - n) := by
  rw [← pow_split h, Nat.mul_comm (2 ^ n), Nat.mul_div_mul_right _ _ (Nat.two_pow_pos n)]

theorem shl_g_ok {F G : (Int × Int × Unit) → Int → Option (((Int × Int × Unit) × Unit) × (Unit))} {a n : Nat} (ha : a < 340282366920938463463374607431768211456) : word_Shl_g F G (wp a) (n : Int) = some ((wp (if n < 128 then a * 2 ^ n % 340282366920938463463374607431768211456 else 0), ()), ()) := by
  unfold word_Shl_g
  have hpa : ((wp a).1, (wp a).2.1, ()) = wp a := rfl
  simp only [gsome, decide_eq_false (show ¬ (n : Int) ≤ -128 by omega), Bool.not_false, cond_true, cond_false, decide_eq_false (show ¬ (n : Int) < 0 by omega)]
  by_cases h128 : n < 128
  · rw [decide_eq_false (show ¬ (n : Int) ≥ 128 by omega), cond_false, if_pos h128]
    by_cases h0 : n = 0
    · subst h0
      rw [decide_eq_true (show ((0 : Nat) : Int) = 0 from rfl), cond_true, Nat.pow_zero, Nat.mul_one, Nat.mod_eq_of_lt ha]
    · rw [decide_eq_false (show ¬ (n : Int) = 0 by omega), cond_false]
      by_cases h64 : 64 ≤ n
      · rw [decide_eq_true (show (n : Int) ≥ 64 by omega), cond_true, show IntKind.i64.wrap ((n : Int) - 64) = ((n - 64 : Nat) : Int) by rw [wrap_i64 (by omega) (by omega)]; omega]
        unfold wp
        dsimp only
        rw [shl64 (by omega), Option.bind_some]
        have e : a * 2 ^ n = a * 2 ^ (n - 64) * 18446744073709551616 := by
          rw [show 18446744073709551616 = 2 ^ 64 from rfl, Nat.mul_assoc, ← Nat.pow_add, Nat.sub_add_cancel h64]
        rw [e]
        have e2 : a % 18446744073709551616 * 2 ^ (n - 64) % 18446744073709551616 = a * 2 ^ (n - 64) % 18446744073709551616 := Nat.mod_mul_mod a (2 ^ (n - 64)) 18446744073709551616
        rw [e2]
        generalize a * 2 ^ (n - 64) = m
        refine congrArg some (Prod.ext (Prod.ext (Prod.ext ?_ (Prod.ext ?_ rfl)) rfl) rfl)
        · dsimp only; first | done | omega
        · dsimp only; first | done | omega
      · rw [decide_eq_false (show ¬ (n : Int) ≥ 64 by omega), cond_false, show IntKind.i64.wrap (64 - (n : Int)) = ((64 - n : Nat) : Int) by rw [wrap_i64 (by omega) (by omega)]; omega]
        unfold wp
        dsimp only
        rw [shl64 (by omega), Option.bind_some, shr64 (by omega), Option.bind_some, shl64 (by omega), Option.bind_some]
        have hlo : a % 18446744073709551616 < 18446744073709551616 := Nat.mod_lt _ (by omega)
        have hs : a * 2 ^ n = a / 18446744073709551616 * 2 ^ n * 18446744073709551616 + a % 18446744073709551616 * 2 ^ n := by
          have : a = a / 18446744073709551616 * 18446744073709551616 + a % 18446744073709551616 := by omega
          rw [show a * 2 ^ n = (a / 18446744073709551616 * 18446744073709551616 + a % 18446744073709551616) * 2 ^ n by rw [← this], Nat.add_mul, Nat.mul_right_comm]
        have hd := mod_div_pow (a % 18446744073709551616) n (by omega) hlo
        have hlt : a % 18446744073709551616 / 2 ^ (64 - n) < 2 ^ n := by
          refine (Nat.div_lt_iff_lt_mul (Nat.two_pow_pos _)).2 ?_
          rw [pow_split (by omega)]; exact hlo
        have hmz : a / 18446744073709551616 * 2 ^ n % 18446744073709551616 % 2 ^ n = 0 := by
          rw [← pow_split (show n ≤ 64 by omega), Nat.mod_mul_right_mod, Nat.mul_mod_left]
        have hle : a / 18446744073709551616 * 2 ^ n % 18446744073709551616 + a % 18446744073709551616 / 2 ^ (64 - n) < 18446744073709551616 := by
          have h1 : a / 18446744073709551616 * 2 ^ n % 18446744073709551616 = 2 ^ n * (a / 18446744073709551616 % 2 ^ (64 - n)) := by
            rw [← pow_split (show n ≤ 64 by omega), Nat.mul_comm (a / (2 ^ n * 2 ^ (64 - n))) (2 ^ n), Nat.mul_mod_mul_left]
          have h2 : a / 18446744073709551616 % 2 ^ (64 - n) + 1 ≤ 2 ^ (64 - n) := Nat.mod_lt _ (Nat.two_pow_pos _)
          have h3 := Nat.mul_le_mul_left (2 ^ n) h2
          rw [pow_split (by omega), Nat.mul_add, Nat.mul_one, ← h1] at h3
          omega
        rw [or_add hmz hlt hle, hs, ← hd]
        generalize a / 18446744073709551616 * 2 ^ n = p at *
        generalize a % 18446744073709551616 * 2 ^ n = q at *
        clear hmz hlt hs hpa
        refine congrArg some (Prod.ext (Prod.ext (Prod.ext ?_ (Prod.ext ?_ rfl)) rfl) rfl)
        · dsimp only; omega
        · dsimp only; omega
  · rw [decide_eq_true (show (n : Int) ≥ 128 by omega), cond_true, if_neg h128]
    rfl

theorem shr_g_ok {F G : (Int × Int × Unit) → Int → Option (((Int × Int × Unit) × Unit) × (Unit))} {a n : Nat} (ha : a < 340282366920938463463374607431768211456) : word_Shr_g F G (wp a) (n : Int) = some ((wp (a / 2 ^ n), ()), ()) := by
  unfold word_Shr_g
  simp only [gsome, decide_eq_false (show ¬ (n : Int) ≤ -128 by omega), Bool.not_false, cond_true, cond_false, decide_eq_false (show ¬ (n : Int) < 0 by omega)]
  by_cases h128 : n < 128
  · rw [decide_eq_false (show ¬ (n : Int) ≥ 128 by omega), cond_false]
    by_cases h0 : n = 0
    · subst h0
      rw [decide_eq_true (show ((0 : Nat) : Int) = 0 from rfl), cond_true, Nat.pow_zero, Nat.div_one]
    · rw [decide_eq_false (show ¬ (n : Int) = 0 by omega), cond_false]
      by_cases h64 : 64 ≤ n
      · rw [decide_eq_true (show (n : Int) ≥ 64 by omega), cond_true, show IntKind.i64.wrap ((n : Int) - 64) = ((n - 64 : Nat) : Int) by rw [wrap_i64 (by omega) (by omega)]; omega]
        unfold wp
        dsimp only
        rw [shr64 (by omega), Option.bind_some]
        have e : a / 2 ^ n = a / 18446744073709551616 / 2 ^ (n - 64) := by
          rw [show 18446744073709551616 = 2 ^ 64 from rfl, Nat.div_div_eq_div_mul, ← Nat.pow_add, show 64 + (n - 64) = n by omega]
        have hlt : a / 2 ^ n < 18446744073709551616 := by rw [e]; exact Nat.lt_of_le_of_lt (Nat.div_le_self _ _) (by omega)
        rw [← e]
        generalize a / 2 ^ n = m at *
        refine congrArg some (Prod.ext (Prod.ext (Prod.ext ?_ (Prod.ext ?_ rfl)) rfl) rfl)
        · dsimp only; first | done | omega
        · dsimp only; first | done | omega
      · rw [decide_eq_false (show ¬ (n : Int) ≥ 64 by omega), cond_false, show IntKind.i64.wrap (64 - (n : Int)) = ((64 - n : Nat) : Int) by rw [wrap_i64 (by omega) (by omega)]; omega]
        unfold wp
        dsimp only
        rw [shr64 (by omega), Option.bind_some, shr64 (by omega), Option.bind_some, shl64 (by omega), Option.bind_some]
        have hp := Nat.two_pow_pos n
        have hq := Nat.two_pow_pos (64 - n)
        have hsp := pow_split (show n ≤ 64 by omega)
        have hl1 : a % 18446744073709551616 / 2 ^ n < 2 ^ (64 - n) := (Nat.div_lt_iff_lt_mul hp).2 (by rw [Nat.mul_comm, hsp]; exact Nat.mod_lt _ (by omega))
        have hm : a / 18446744073709551616 * 2 ^ (64 - n) % 18446744073709551616 = 2 ^ (64 - n) * (a / 18446744073709551616 % 2 ^ n) := by
          rw [← hsp, Nat.mul_comm (2 ^ n), Nat.mul_comm (a / (2 ^ (64 - n) * 2 ^ n)), Nat.mul_mod_mul_left]
        have hsum : 2 ^ (64 - n) * (a / 18446744073709551616 % 2 ^ n) + a % 18446744073709551616 / 2 ^ n < 18446744073709551616 := by
          have h2 : a / 18446744073709551616 % 2 ^ n + 1 ≤ 2 ^ n := Nat.mod_lt _ hp
          have h3 := Nat.mul_le_mul_left (2 ^ (64 - n)) h2
          rw [Nat.mul_comm (2 ^ (64 - n)) (2 ^ n), hsp, Nat.mul_add, Nat.mul_one] at h3
          omega
        have hor : bitsI .or .u64 ((a % 18446744073709551616 / 2 ^ n : Nat) : Int) ((a / 18446744073709551616 * 2 ^ (64 - n) % 18446744073709551616 : Nat) : Int) = ((2 ^ (64 - n) * (a / 18446744073709551616 % 2 ^ n) + a % 18446744073709551616 / 2 ^ n : Nat) : Int) := by
          rw [hm]
          have := or_add (a := 2 ^ (64 - n) * (a / 18446744073709551616 % 2 ^ n)) (b := a % 18446744073709551616 / 2 ^ n) (s := 64 - n) (Nat.mul_mod_right _ _) hl1 hsum
          rw [← this, or64 (by omega) (by omega), or64 (by omega) (by omega), Nat.or_comm]
        rw [hor]
        have hval : a / 2 ^ n = a / 18446744073709551616 / 2 ^ n * 18446744073709551616 + (2 ^ (64 - n) * (a / 18446744073709551616 % 2 ^ n) + a % 18446744073709551616 / 2 ^ n) := by
          have h1 : a = 18446744073709551616 * (a / 18446744073709551616) + a % 18446744073709551616 := by omega
          have h2 := Nat.div_add_mod (a / 18446744073709551616) (2 ^ n)
          have h3 := Nat.div_add_mod (a % 18446744073709551616) (2 ^ n)
          have hr := Nat.mod_lt (a % 18446744073709551616) hp
          refine ((Nat.div_mod_unique (a := a) (c := a % 18446744073709551616 % 2 ^ n) hp).2 ⟨?_, hr⟩).1
          generalize a / 18446744073709551616 = A at *
          generalize a % 18446744073709551616 = B at *
          rw [Nat.mul_add, Nat.mul_add, ← Nat.mul_assoc (2 ^ n) (2 ^ (64 - n)), hsp, ← Nat.mul_assoc]
          generalize 2 ^ n * (A / 2 ^ n) = p at *
          generalize 2 ^ n * (B / 2 ^ n) = q at *
          omega
        rw [hval]
        generalize 2 ^ (64 - n) * (a / 18446744073709551616 % 2 ^ n) + a % 18446744073709551616 / 2 ^ n = q at *
        generalize a / 18446744073709551616 / 2 ^ n = p at *
        clear hor hm hval hl1 hsp
        refine congrArg some (Prod.ext (Prod.ext (Prod.ext ?_ (Prod.ext ?_ rfl)) rfl) rfl)
        · dsimp only; omega
        · dsimp only; omega
  · rw [decide_eq_true (show (n : Int) ≥ 128 by omega), cond_true, Nat.div_eq_of_lt (Nat.lt_of_lt_of_le ha (by rw [show 340282366920938463463374607431768211456 = 2 ^ 128 from rfl]; exact Nat.pow_le_pow_right (by omega) (by omega)))]
    rfl

/-- moved by n places: up, or down -/
def moved (a : Nat) (n : Int) : Nat := if 0 ≤ n then (if n < 128 then a * 2 ^ n.toNat % 340282366920938463463374607431768211456 else 0) else a / 2 ^ (-n).toNat

end Go.L

namespace Go.L
open Go Go.Pv
set_option maxRecDepth 100000

theorem div_big {a n : Nat} (ha : a < 340282366920938463463374607431768211456) (h : 128 ≤ n) : a / 2 ^ n = 0 :=
  Nat.div_eq_of_lt (Nat.lt_of_lt_of_le ha (by rw [show 340282366920938463463374607431768211456 = 2 ^ 128 from rfl]; exact Nat.pow_le_pow_right (by omega) h))

theorem moved_lt {a : Nat} (ha : a < 340282366920938463463374607431768211456) (n : Int) : moved a n < 340282366920938463463374607431768211456 := by
  unfold moved
  split
  · split
    · exact Nat.mod_lt _ (by omega)
    · omega
  · exact Nat.lt_of_le_of_lt (Nat.div_le_self _ _) ha

theorem shl_g_neg {F G : (Int × Int × Unit) → Int → Option (((Int × Int × Unit) × Unit) × (Unit))} {a : Nat} {n : Int} (ha : a < 340282366920938463463374607431768211456) (hn : n < 0) (hG : ∀ k : Nat, G (wp a) (k : Int) = some ((wp (a / 2 ^ k), ()), ())) : word_Shl_g F G (wp a) n = some ((wp (a / 2 ^ (-n).toNat), ()), ()) := by
  have hpa : ((wp a).1, (wp a).2.1, ()) = wp a := rfl
  unfold word_Shl_g
  simp only [gsome]
  by_cases h : n ≤ -128
  · rw [decide_eq_true h, cond_true, cond_true, div_big ha (by omega)]
    rfl
  · rw [decide_eq_false h, Bool.not_false, cond_true, cond_false, decide_eq_false (show ¬ n ≥ 128 by omega), cond_false, decide_eq_true hn, cond_true, hpa, show IntKind.i64.wrap (0 - n) = (((-n).toNat : Nat) : Int) by rw [wrap_i64 (by omega) (by omega)]; omega, hG]
    rfl

theorem shr_g_neg {F G : (Int × Int × Unit) → Int → Option (((Int × Int × Unit) × Unit) × (Unit))} {a : Nat} {n : Int} (hn : n < 0) (hF : ∀ k : Nat, F (wp a) (k : Int) = some ((wp (if k < 128 then a * 2 ^ k % 340282366920938463463374607431768211456 else 0), ()), ())) : word_Shr_g F G (wp a) n = some ((wp (if -n < 128 then a * 2 ^ (-n).toNat % 340282366920938463463374607431768211456 else 0), ()), ()) := by
  have hpa : ((wp a).1, (wp a).2.1, ()) = wp a := rfl
  unfold word_Shr_g
  simp only [gsome]
  by_cases h : n ≤ -128
  · rw [decide_eq_true h, cond_true, cond_true, if_neg (by omega)]
    rfl
  · rw [decide_eq_false h, Bool.not_false, cond_true, cond_false, decide_eq_false (show ¬ n ≥ 128 by omega), cond_false, decide_eq_true hn, cond_true, hpa, show IntKind.i64.wrap (0 - n) = (((-n).toNat : Nat) : Int) by rw [wrap_i64 (by omega) (by omega)]; omega, hF, if_pos (show (-n).toNat < 128 by omega), if_pos (show -n < 128 by omega)]
    rfl

theorem word_Shl_ok {a : Nat} {n : Int} (ha : a < 340282366920938463463374607431768211456) : word_Shl (wp a) n = some ((wp (moved a n), ()), ()) := by
  show word_Shl_g (word_Shr_lv 2).1 (word_Shr_g (word_Shr_lv 1).1 (word_Shr_lv 1).2) (wp a) n = _
  unfold moved
  by_cases h : 0 ≤ n
  · obtain ⟨k, rfl⟩ : ∃ k : Nat, n = k := ⟨n.toNat, by omega⟩
    rw [shl_g_ok ha, if_pos h, Int.toNat_natCast]
    by_cases h2 : k < 128
    · rw [if_pos h2, if_pos (by omega)]
    · rw [if_neg h2, if_neg (by omega)]
  · rw [if_neg h, shl_g_neg ha (by omega) fun k => shr_g_ok ha]

theorem word_Shr_ok {a : Nat} {n : Int} (ha : a < 340282366920938463463374607431768211456) : word_Shr (wp a) n = some ((wp (moved a (-n)), ()), ()) := by
  show word_Shr_g (word_Shl_g (word_Shr_lv 1).1 (word_Shr_lv 1).2) (word_Shr_lv 2).2 (wp a) n = _
  unfold moved
  by_cases h : n < 0
  · rw [shr_g_neg h fun k => shl_g_ok ha, if_pos (show 0 ≤ -n by omega)]
  · obtain ⟨k, rfl⟩ : ∃ k : Nat, n = k := ⟨n.toNat, by omega⟩
    rw [shr_g_ok ha]
    by_cases h2 : k = 0
    · subst h2
      rw [if_pos (by omega), if_pos (by omega), show (-((0 : Nat) : Int)).toNat = 0 by omega, Nat.pow_zero, Nat.mul_one, Nat.div_one, Nat.mod_eq_of_lt ha]
    · rw [if_neg (by omega), show (-(-(k : Int))).toNat = k by omega]

theorem wp0 : ((0, 0, ()) : Int × Int × Unit) = wp 0 := rfl
theorem wp1 : ((0, 1, ()) : Int × Int × Unit) = wp 1 := rfl

theorem word_Ones_ok {n : Int} : word_Ones n = some ((wp (2 ^ min n.toNat 128 - 1), ()), ()) := by
  unfold word_Ones
  by_cases h : n ≤ 0
  · rw [decide_eq_true h, cond_true, show n.toNat = 0 by omega]
    rfl
  · rw [decide_eq_false h, cond_false]
    by_cases h2 : n ≥ 128
    · rw [decide_eq_true h2, cond_true, wp0, word_Not_ok (by omega), Nat.min_eq_right (by omega)]
      rfl
    · rw [decide_eq_false h2, cond_false, wp1, word_Shl_ok (by omega)]
      dsimp only [Option.bind_some]
      have hm : moved 1 n = 2 ^ n.toNat := by
        unfold moved
        rw [if_pos (by omega), if_pos (by omega), Nat.one_mul]
        refine Nat.mod_eq_of_lt ?_
        rw [show 340282366920938463463374607431768211456 = 2 ^ 128 from rfl]
        exact Nat.pow_lt_pow_right (by omega) (by omega)
      rw [word_Sub_ok (moved_lt (by omega) n) (by omega), hm, Nat.min_eq_left (by omega)]
      dsimp only [Option.bind_some]
      have hp := Nat.two_pow_pos n.toNat
      have hl : 2 ^ n.toNat < 340282366920938463463374607431768211456 := by
        rw [← hm]; exact moved_lt (by omega) n
      rw [show (2 ^ n.toNat + (340282366920938463463374607431768211456 - 1)) % 340282366920938463463374607431768211456 = 2 ^ n.toNat - 1 by omega]

theorem wp_eqb (a b : Nat) : (decide ((wp a).1 = (wp b).1) && decide ((wp a).2.1 = (wp b).2.1)) = decide (a = b) := by
  rw [← Bool.decide_and]
  refine decide_eq_decide.2 ⟨fun h => wp_inj (Prod.ext h.1 (Prod.ext h.2 rfl)), fun h => by rw [h]; exact ⟨rfl, rfl⟩⟩

/-- below, equal, above -/
def cmp (a b : Nat) : Int := if a = b then 0 else if a < b then -1 else 1

theorem word_Cmp_ok {a b : Nat} (ha : a < 340282366920938463463374607431768211456) (hb : b < 340282366920938463463374607431768211456) : word_Cmp (wp a) (wp b) = some ((cmp a b, ()), ()) := by
  have hpa : ((wp a).1, (wp a).2.1, ()) = wp a := rfl
  have hpb : ((wp b).1, (wp b).2.1, ()) = wp b := rfl
  unfold word_Cmp cmp
  rw [hpa, hpb, word_Sub_ok ha hb, Option.bind_some, wp_eqb]
  dsimp only
  by_cases h : a = b
  · rw [decide_eq_true h, cond_true, if_pos h]
  · rw [decide_eq_false h, cond_false, if_neg h]
    by_cases h2 : a < b
    · rw [decide_eq_true h2, cond_true, if_pos h2]
    · rw [decide_eq_false h2, cond_false, if_neg h2]

theorem word_Len_ok {a : Nat} (ha : a < 340282366920938463463374607431768211456) : word_Len (wp a) = some (((bitLen a : Int), ()), ()) := by
  unfold word_Len
  by_cases h : 18446744073709551616 ≤ a
  · rw [decide_eq_true (show (wp a).1 > 0 by show (((a / 18446744073709551616 : Nat)) : Int) > 0; omega), cond_true]
    show (bits_Len64 ((a / 18446744073709551616 : Nat) : Int)).bind _ = _
    rw [bits_Len64_ok (by omega), Option.bind_some]
    dsimp only
    have h1 := bitLen_shift (n := a) (k := 64) (by rw [show 2 ^ 64 = 18446744073709551616 from rfl]; exact h)
    rw [show 2 ^ 64 = 18446744073709551616 from rfl] at h1
    have h2 : bitLen (a / 18446744073709551616) ≤ 64 := bitLen_le (by rw [show 2 ^ 64 = 18446744073709551616 from rfl]; omega)
    rw [h1, show (64 : Int) + (bitLen (a / 18446744073709551616) : Int) = ((64 : Nat) : Int) + (bitLen (a / 18446744073709551616) : Int) from rfl, wadd (by omega)]
  · rw [decide_eq_false (show ¬ (wp a).1 > 0 by show ¬ (((a / 18446744073709551616 : Nat)) : Int) > 0; omega), cond_false]
    show (bits_Len64 ((a % 18446744073709551616 : Nat) : Int)).bind _ = _
    rw [Nat.mod_eq_of_lt (by omega), bits_Len64_ok (by omega), Option.bind_some]

end Go.L

namespace Go.L
open Go Go.Pv
set_option maxRecDepth 100000

theorem lrow_succ {α : Type} (n : Nat) (f : Nat → α) : lrow (n + 1) f = lrow n f ++ [f n] := by unfold lrow; rw [List.range_succ, List.map_append]; rfl
theorem lrow_zero {α : Type} (f : Nat → α) : lrow 0 f = [] := rfl
theorem lrow_add {α : Type} (m n : Nat) (f : Nat → α) : lrow (m + n) f = lrow m f ++ lrow n (fun j => f (m + j)) := by
  unfold lrow
  rw [List.range_add, List.map_append, List.map_map]
  rfl

theorem roomI_ok {α : Type} {xs ys : List α} (h : xs.length + ys.length ≤ 1000000000) : roomI 1 xs ys = some (xs ++ ys) := by
  unfold roomI
  rw [if_pos (by omega)]

theorem row_w (w : Nat) : rowB (BitVec.ofNat 128 w) = row w.testBit := row_ext fun i hi => by rw [BitVec.getLsbD_ofNat, decide_eq_true hi, Bool.true_and]

theorem wu8 (n : Int) : IntKind.u8.wrap n = n % 256 := by
  simp only [IntKind.wrap, IntKind.signed, IntKind.bits]
  simp

/-! ### vectors -/
def vw (w : Int) (x : Nat) : Int × Int × Int × Unit := (w, (wp x).1, (wp x).2.1, ())

/-- a vector's width and value are fit -/
def may (w : Int) (x : Nat) : Bool := decide ((1 ≤ w ∧ w ≤ 128) ∧ (bitLen x : Int) ≤ w)

theorem may_of {w : Int} {x : Nat} (h : may w x = true) : 1 ≤ w ∧ w ≤ 128 ∧ (bitLen x : Int) ≤ w := by
  have := of_decide_eq_true h
  omega

theorem vec_May_ok {w : Int} {x : Nat} (hx : x < 340282366920938463463374607431768211456) : vec_May (vw w x) = some ((may w x, ()), ()) := by
  unfold vec_May vec_width may vw
  simp only [gsome, Option.bind_some]
  by_cases h : 1 ≤ w ∧ w ≤ 128
  · simp only [decide_eq_true (show w ≥ 1 from h.1), decide_eq_true h.2, cond_true, gtrue]
    show ((vec_Word (w, (wp x).1, (wp x).2.1, ())).bind fun r_3 => (word_Len r_3.1.1).bind fun r_4 => some ((decide (r_4.1.1 ≤ w), ()), ())) = _
    unfold vec_Word
    rw [Option.bind_some]
    show ((word_Len (wp x)).bind fun r_4 => some ((decide (r_4.1.1 ≤ w), ()), ())) = _
    rw [word_Len_ok hx, Option.bind_some]
    congr 3
    exact decide_eq_decide.2 ⟨fun h2 => ⟨h, h2⟩, fun h2 => h2.2⟩
  · have e : (bif decide (w ≥ 1) then (bif decide (w ≥ 1) then decide (w ≤ 128) else false) else false) = false := by
      by_cases h : w ≥ 1
      · rw [decide_eq_true h, decide_eq_false (by omega)]; rfl
      · rw [decide_eq_false h]; rfl
    simp only [e, gfalse, cond_false]
    rw [decide_eq_false (fun h2 => h h2.1)]

theorem ref02_May_ok {w : Int} {x : Nat} (hx : x < 340282366920938463463374607431768211456) : ref02_May (vw w x) = some ((may w x, ()), ()) := by
  unfold ref02_May may vw
  simp only [gsome]
  by_cases h : 1 ≤ w ∧ w ≤ 128
  · simp only [decide_eq_true (show w ≥ 1 from h.1), decide_eq_true h.2, cond_true, gtrue]
    rw [of_wp hx, Option.bind_some]
    dsimp only
    rw [ref01_Len_ok, Option.bind_some, BitVec.toNat_ofNat, Nat.mod_eq_of_lt (show x < 2 ^ 128 from hx)]
    congr 3
    exact decide_eq_decide.2 ⟨fun h2 => ⟨h, h2⟩, fun h2 => h2.2⟩
  · have hr : may w x = false := decide_eq_false (fun h2 => h h2.1)
    unfold may at hr
    rw [hr]
    by_cases h1 : w ≥ 1
    · simp only [decide_eq_true h1, cond_true, decide_eq_false (show ¬ w ≤ 128 by omega), gfalse, cond_false]
    · simp only [decide_eq_false h1, cond_false, gfalse]

theorem ref02_Bits_ok {w : Int} {x : Nat} (hx : x < 340282366920938463463374607431768211456) : ref02_Bits (vw w x) = some ((lrow (min w 128).toNat x.testBit, ()), ()) := by
  unfold ref02_Bits vw
  dsimp only
  rw [of_wp hx, Option.bind_some]
  dsimp only
  rw [row_w]
  refine loop_up (fun i => (((lrow i x.testBit, (i : Int), ()), (w, (wp x).1, (wp x).2.1, ()), row x.testBit, ()) : ((List Bool) × Int × Unit) × ((Int × Int × Int × Unit) × (List Bool) × Unit))) (min w 128).toNat ?_ ?_ 0 (by omega)
  · intro i hi
    dsimp only
    unfold ref02_Bits_s0
    simp only [gsome]
    rw [decide_eq_true (show (i : Int) < w by omega), decide_eq_true (show (i : Int) < 128 by omega)]
    simp only [cond_true]
    rw [ck_nat (show i < 128 by omega), row_rd _ (show i < 128 by omega), Option.bind_some, roomI_ok (by rw [lrow_len]; simp only [List.length_cons, List.length_nil]; omega), Option.bind_some, ← lrow_succ, wi64 (by omega)]
  · dsimp only
    unfold ref02_Bits_s0
    simp only [gsome]
    have e : (bif decide ((((min w 128).toNat : Nat) : Int) < w) then (bif decide ((((min w 128).toNat : Nat) : Int) < w) then decide ((((min w 128).toNat : Nat) : Int) < 128) else false) else false) = false := by
      by_cases h : (((min w 128).toNat : Nat) : Int) < w
      · rw [decide_eq_true h, decide_eq_false (by omega)]; rfl
      · rw [decide_eq_false h]; rfl
    rw [e]
    rfl

theorem bit_out {x : Nat} {w i : Nat} (h : bitLen x ≤ w) (hi : w ≤ i) : x.testBit i = false :=
  Nat.testBit_lt_two_pow (Nat.lt_of_lt_of_le (bitLen_spec x).1 (Nat.pow_le_pow_right (by omega) (by omega)))

/-! ### bytes -/
/-- the lowest m bytes of a number, the high ones first -/
def be (n m : Nat) : List Int := lrow m fun j => ((n / 2 ^ (8 * (m - 1 - j)) % 256 : Nat) : Int)

/-- a number's lowest m bits, the high ones first -/
def high (n m : Nat) : List Bool := lrow m fun j => n.testBit (m - 1 - j)

theorem be_len (n m : Nat) : (be n m).length = m := lrow_len _ _
theorem high_len (n m : Nat) : (high n m).length = m := lrow_len _ _

theorem bit_add (n e k : Nat) : 2 * (n / 2 ^ (e + 1) % 2 ^ k) + (bif n.testBit e then 1 else 0) = n / 2 ^ e % 2 ^ (k + 1) := by
  have h1 : n / 2 ^ (e + 1) = n / 2 ^ e / 2 := by rw [Nat.pow_succ, Nat.div_div_eq_div_mul]
  have h2 : n.testBit e = decide (n / 2 ^ e % 2 = 1) := Nat.testBit_eq_decide_div_mod_eq
  rw [h1, h2, Nat.pow_succ, Nat.mul_comm (2 ^ k) 2, Nat.mod_mul]
  generalize n / 2 ^ e = m
  by_cases h : m % 2 = 1
  · rw [decide_eq_true h, cond_true]; omega
  · rw [decide_eq_false h, cond_false]; omega

theorem ref03_Bytes_ok {n m : Nat} (hm : m ≤ 10000) : ref03_Bytes (high n (8 * m)) = some ((be n m, ()), ()) := by
  unfold ref03_Bytes
  refine loop_up (fun i => (((high n (8 * m), lrow i (fun j => ((n / 2 ^ (8 * (m - 1 - j)) % 256 : Nat) : Int)), ((8 * i : Nat) : Int), ()), ()) : ((List Bool) × (List Int) × Int × Unit) × Unit)) m ?_ ?_ 0 (by omega)
  · intro i hi
    dsimp only
    unfold ref03_Bytes_s0
    rw [high_len, decide_eq_true (show ((8 * i : Nat) : Int) < ((8 * m : Nat) : Int) by omega), cond_true]
    have key := loop_up (f := fun (z : ((List Bool) × (List Int) × Int × Int × Int × Unit) × (Unit)) => ref03_Bytes_s2 z.1.1 z.1.2.1 z.1.2.2.1 z.1.2.2.2.1 z.1.2.2.2.2.1) (fun k => (((high n (8 * m), lrow i (fun j => ((n / 2 ^ (8 * (m - 1 - j)) % 256 : Nat) : Int)), ((8 * i : Nat) : Int), ((n / 2 ^ (8 * m - 8 * i - k) % 2 ^ k : Nat) : Int), ((8 * i + k : Nat) : Int), ()), ()))) 8 ?_ ?_ 0 (by omega) (r := (Sum.inl ((high n (8 * m), lrow (i + 1) (fun j => ((n / 2 ^ (8 * (m - 1 - j)) % 256 : Nat) : Int)), ((8 * (i + 1) : Nat) : Int), ()), ())))
    · rw [Nat.pow_zero, Nat.mod_one] at key
      exact key
    · intro k hk
      dsimp only
      unfold ref03_Bytes_s2
      have hlt : n / 2 ^ (8 * m - 8 * i - k) % 2 ^ k < 256 := Nat.lt_of_lt_of_le (Nat.mod_lt _ (Nat.two_pow_pos k)) (by rw [show 256 = 2 ^ 8 from rfl]; exact Nat.pow_le_pow_right (by omega) (by omega))
      have hs := bit_add n (8 * m - 8 * i - (k + 1)) k
      rw [show 8 * m - 8 * i - (k + 1) + 1 = 8 * m - 8 * i - k by omega] at hs
      have hb : rdI (high n (8 * m)) ((8 * i + k : Nat) : Int) = some (n.testBit (8 * m - 8 * i - (k + 1))) := by
        unfold high
        rw [lrow_rd _ (by omega), show 8 * m - 1 - (8 * i + k) = 8 * m - 8 * i - (k + 1) by omega]
      rw [show IntKind.i64.wrap (((8 * i : Nat) : Int) + 8) = ((8 * i + 8 : Nat) : Int) by rw [wrap_i64 (by omega) (by omega)]; omega, decide_eq_true (show ((8 * i + k : Nat) : Int) < ((8 * i + 8 : Nat) : Int) by omega), cond_true]
      simp only [gsome, high_len]
      rw [decide_eq_true (show ((8 * i + k : Nat) : Int) < ((8 * m : Nat) : Int) by omega)]
      simp only [cond_true, gtrue]
      rw [hb, Option.bind_some, wi64 (show 8 * i + k < 1000000000 by omega), ← hs]
      generalize n / 2 ^ (8 * m - 8 * i - k) % 2 ^ k = v at hlt
      cases n.testBit (8 * m - 8 * i - (k + 1))
      · simp only [cond_false]
        rw [wrap_i64 (by omega) (by omega)]
        rfl
      · simp only [cond_true]
        rw [wrap_i64 (n := 2 * (v : Int)) (by omega) (by omega), wrap_i64 (by omega) (by omega)]
        rfl
    · dsimp only
      unfold ref03_Bytes_s2
      rw [show IntKind.i64.wrap (((8 * i : Nat) : Int) + 8) = ((8 * i + 8 : Nat) : Int) by rw [wrap_i64 (by omega) (by omega)]; omega, decide_eq_false (show ¬ ((8 * i + 8 : Nat) : Int) < ((8 * i + 8 : Nat) : Int) by omega), cond_false, roomI_ok (by rw [lrow_len]; simp only [List.length_cons, List.length_nil]; omega), Option.bind_some]
      have hb : n / 2 ^ (8 * m - 8 * i - 8) % 2 ^ 8 < 256 := Nat.mod_lt _ (by omega)
      rw [wrap_u8 (by omega) (by omega), lrow_succ, show 8 * (m - 1 - i) = 8 * m - 8 * i - 8 by omega]
      rfl
  · dsimp only
    unfold ref03_Bytes_s0
    rw [high_len, decide_eq_false (show ¬ ((8 * m : Nat) : Int) < ((8 * m : Nat) : Int) by omega), cond_false]
    rfl

end Go.L

namespace Go.L
open Go Go.Pv
set_option maxRecDepth 100000

theorem bytes_Clone_ok {b : List Int} (h : b.length ≤ 1000000) : bytes_Clone b = some ((b, ()), ()) := by
  unfold bytes_Clone
  rw [roomI_ok (by simp only [List.length_nil]; omega)]
  cases b with
  | nil =>
    unfold amb
    simp
  | cons x l => rfl

theorem slices_Clip_ok {b : List Int} : slices_Clip_byte_byte b = some ((b, ()), ()) := by
  unfold slices_Clip_byte_byte
  dsimp only
  rw [if_pos rfl]
  unfold subL
  rw [if_pos (by omega)]
  simp

/-- the bits of an integer -/
def nat64 (n : Int) : Nat := (n % 18446744073709551616).toNat

theorem nat64_eq (n : Int) : ((nat64 n : Nat) : Int) = n % 18446744073709551616 := by unfold nat64; omega

theorem shr_byte {n : Int} {s : Nat} (hs : s ≤ 7) : (shrI .i64 n ((8 * s : Nat) : Int)).map IntKind.u8.wrap = some ((nat64 n / 2 ^ (8 * s) % 256 : Nat) : Int) := by
  unfold shrI
  rw [if_neg (by omega), Int.toNat_natCast, Option.map_some, wu8]
  congr 1
  have hn := nat64_eq n
  rw [show min (8 * s) IntKind.i64.bits = 8 * s by show min (8 * s) 64 = _; omega, Int.fdiv_eq_ediv_of_nonneg _ (by exact_mod_cast Nat.zero_le (2 ^ (8 * s)))]
  generalize nat64 n = N at hn
  have : s = 0 ∨ s = 1 ∨ s = 2 ∨ s = 3 ∨ s = 4 ∨ s = 5 ∨ s = 6 ∨ s = 7 := by omega
  rcases this with h | h | h | h | h | h | h | h <;> subst h <;> simp only [Nat.reduceMul, Nat.reducePow, Int.reducePow] <;> omega

theorem shr_byte' {n : Int} {s : Nat} (hs : s ≤ 7) {β : Type} (k : Int → Option β) : ((shrI .i64 n ((8 * s : Nat) : Int)).bind fun v => k (IntKind.u8.wrap v)) = k ((nat64 n / 2 ^ (8 * s) % 256 : Nat) : Int) := by
  have := shr_byte (n := n) hs
  cases h : shrI .i64 n ((8 * s : Nat) : Int) with
  | none => rw [h] at this; cases this
  | some v =>
    rw [h, Option.map_some] at this
    rw [Option.bind_some, Option.some.inj this]

theorem wire_put_ok {b : List Int} {n : Int} {m : Nat} (hb : b.length ≤ 1000000) (hm : m ≤ 8) : wire_put b n (m : Int) = some ((b ++ be (nat64 n) m, ()), ()) := by
  unfold wire_put
  rw [bytes_Clone_ok hb, Option.bind_some, slices_Clip_ok, Option.bind_some]
  have key := loop_up (f := fun (z : (Int × Int × (List Int) × Int × Int × Unit) × (Unit)) => wire_put_s0 z.1.1 z.1.2.1 z.1.2.2.1 z.1.2.2.2.1 z.1.2.2.2.2.1) (fun i => ((n, (m : Int), b ++ lrow i (fun j => ((nat64 n / 2 ^ (8 * (m - 1 - j)) % 256 : Nat) : Int)), (m : Int), (i : Int), ()), ())) m (r := ((b ++ be (nat64 n) m, ()), ())) ?_ ?_ 0 (by omega)
  · rw [lrow_zero, List.append_nil] at key
    exact key
  · intro i hi
    dsimp only
    unfold wire_put_s0
    rw [decide_eq_true (show (i : Int) < (m : Int) by omega), cond_true, show IntKind.i64.wrap (8 * IntKind.i64.wrap (IntKind.i64.wrap ((m : Int) - 1) - (i : Int))) = ((8 * (m - 1 - i) : Nat) : Int) by rw [wrap_i64 (n := (m : Int) - 1) (by omega) (by omega), wrap_i64 (n := (m : Int) - 1 - (i : Int)) (by omega) (by omega), wrap_i64 (by omega) (by omega)]; omega]
    have hsh := shr_byte' (n := n) (show m - 1 - i ≤ 7 by omega) (fun v => (roomI 1 (b ++ lrow i (fun j => ((nat64 n / 2 ^ (8 * (m - 1 - j)) % 256 : Nat) : Int))) [v]).bind fun v_9 => (some (Sum.inl ((n, (m : Int), v_9, (m : Int), (IntKind.i64.wrap ((i : Int) + 1)), ()), ())) : Option (((Int × Int × (List Int) × Int × Int × Unit) × (Unit)) ⊕ (((List Int) × Unit) × (Unit)))))
    rw [hsh, roomI_ok (by rw [List.length_append, lrow_len]; simp only [List.length_cons, List.length_nil]; omega), Option.bind_some, wi64 (by omega), List.append_assoc, ← lrow_succ]
  · dsimp only
    unfold wire_put_s0
    rw [decide_eq_false (show ¬ (m : Int) < (m : Int) by omega), cond_false]
    rfl

theorem ref07_Number_ok {n : Int} {m : Nat} (hm : m ≤ 8) : ref07_Number n (m : Int) = some ((be (nat64 n) m, ()), ()) := by
  unfold ref07_Number
  have hN : nat64 n < 18446744073709551616 := by unfold nat64; omega
  have hv : ((64, 0, IntKind.u64.wrap n, ()) : Int × Int × Int × Unit) = vw 64 (nat64 n) := by
    unfold vw wp
    rw [Nat.div_eq_of_lt hN, Nat.mod_eq_of_lt hN, wrapu, nat64_eq]
    rfl
  rw [hv, ref02_Bits_ok (by omega), Option.bind_some]
  dsimp only
  rw [show (min (64 : Int) 128).toNat = 64 from rfl, show IntKind.i64.wrap (IntKind.i64.wrap (8 * (m : Int)) - 1) = ((8 * m : Nat) : Int) - 1 by rw [wrap_i64 (n := 8 * (m : Int)) (by omega) (by omega), wrap_i64 (by omega) (by omega)]; omega]
  have key := loop_up (f := fun (z : ((List Bool) × (List Bool) × Int × Unit) × (Unit)) => ref07_Number_s0 z.1.1 z.1.2.1 z.1.2.2.1) (fun k => ((lrow 64 (nat64 n).testBit, lrow k (fun j => (nat64 n).testBit (8 * m - 1 - j)), ((8 * m : Nat) : Int) - 1 - (k : Int), ()), ())) (8 * m) (r := ((be (nat64 n) m, ()), ())) ?_ ?_ 0 (by omega)
  · rw [lrow_zero, show ((8 * m : Nat) : Int) - 1 - ((0 : Nat) : Int) = ((8 * m : Nat) : Int) - 1 by omega] at key
    exact key
  · intro k hk
    dsimp only
    unfold ref07_Number_s0
    rw [decide_eq_true (show ((8 * m : Nat) : Int) - 1 - (k : Int) ≥ 0 by omega), cond_true, show ((8 * m : Nat) : Int) - 1 - (k : Int) = ((8 * m - 1 - k : Nat) : Int) by omega, lrow_len, ck_nat (show 8 * m - 1 - k < 64 by omega), lrow_rd _ (show 8 * m - 1 - k < 64 by omega), Option.bind_some, roomI_ok (by rw [lrow_len]; simp only [List.length_cons, List.length_nil]; omega), Option.bind_some, ← lrow_succ, wrap_i64 (by omega) (by omega), show ((8 * m - 1 - k : Nat) : Int) - 1 = ((8 * m : Nat) : Int) - 1 - ((k + 1 : Nat) : Int) by omega]
  · dsimp only
    unfold ref07_Number_s0
    rw [decide_eq_false (show ¬ ((8 * m : Nat) : Int) - 1 - ((8 * m : Nat) : Int) ≥ 0 by omega), cond_false]
    have := ref03_Bytes_ok (n := nat64 n) (m := m) (by omega)
    unfold high at this
    rw [this]
    rfl

/-! ### vectors -/
/-- a vector's encoding -/
def enc (w : Int) (x : Nat) : List Int := bif may w x then w :: be x ((w.toNat + 7) / 8) else [0]

theorem be1 {n : Int} (h0 : 0 ≤ n) (h1 : n < 256) : be (nat64 n) 1 = [n] := by
  unfold be
  rw [lrow_succ, lrow_zero]
  show [((nat64 n / 2 ^ 0 % 256 : Nat) : Int)] = _
  rw [Nat.pow_zero, Nat.div_one]
  have := nat64_eq n
  congr 1
  omega

theorem enc_len (w : Int) (x : Nat) : (enc w x).length ≤ 17 := by
  unfold enc
  cases h : may w x
  · rw [cond_false]; simp
  · have := may_of h
    rw [cond_true, List.length_cons, be_len]
    omega

theorem wire_Vec_ok {b : List Int} {w : Int} {x : Nat} (hb : b.length ≤ 900000) (hx : x < 340282366920938463463374607431768211456) : wire_Vec b (vw w x) = some ((b ++ enc w x, ()), ()) := by
  unfold wire_Vec enc
  have hpv : ((vw w x).1, (vw w x).2.1, (vw w x).2.2.1, ()) = vw w x := rfl
  rw [hpv, vec_May_ok hx, Option.bind_some]
  cases h : may w x
  · have := wire_put_ok (n := 0) (m := 1) (show b.length ≤ 1000000 by omega) (by omega)
    rw [be1 (by omega) (by omega)] at this
    simp only [Bool.not_false, cond_true, cond_false]
    have e : wire_put b 0 1 = some ((b ++ [0], ()), ()) := this
    rw [e]
    rfl
  · obtain ⟨h1, h2, h3⟩ := may_of h
    have := wire_put_ok (n := w) (m := 1) (show b.length ≤ 1000000 by omega) (by omega)
    rw [be1 (by omega) (by omega)] at this
    simp only [Bool.not_true, cond_true, cond_false]
    have e : wire_put b (vw w x).1 1 = some ((b ++ [w], ()), ()) := this
    rw [e, Option.bind_some]
    unfold wire_room
    rw [Option.bind_some]
    dsimp only
    obtain ⟨W, rfl⟩ : ∃ W : Nat, w = W := ⟨w.toNat, by omega⟩
    rw [Int.toNat_natCast]
    generalize hm : (W + 7) / 8 = m
    rw [show (vw (W : Int) x).1 = (W : Int) from rfl, show IntKind.i64.wrap (IntKind.i64.wrap ((IntKind.i64.wrap (IntKind.i64.wrap ((W : Int) + 8) - 1)).tdiv 8) - 1) = (m : Int) - 1 by
      rw [wrap_i64 (n := (W : Int) + 8) (by omega) (by omega), wrap_i64 (n := (W : Int) + 8 - 1) (by omega) (by omega), Int.tdiv_eq_ediv_of_nonneg (by omega), wrap_i64 (n := ((W : Int) + 8 - 1) / 8) (by omega) (by omega), wrap_i64 (by omega) (by omega)]; omega]
    have key := loop_up (f := fun (z : ((List Int) × Int × Unit) × ((Int × Int × Int × Unit) × Unit)) => wire_Vec_s0 z.1.1 z.1.2.1 z.2.1) (fun k => ((b ++ [(W : Int)] ++ lrow k (fun j => ((x / 2 ^ (8 * (m - 1 - j)) % 256 : Nat) : Int)), (m : Int) - 1 - (k : Int), ()), vw (W : Int) x, ())) m (r := ((b ++ (W : Int) :: be x m, ()), ())) ?_ ?_ 0 (by omega)
    · rw [lrow_zero, List.append_nil, show (m : Int) - 1 - ((0 : Nat) : Int) = (m : Int) - 1 by omega] at key
      exact key
    · intro k hk
      dsimp only
      unfold wire_Vec_s0 vec_Word
      rw [decide_eq_true (show (m : Int) - 1 - (k : Int) ≥ 0 by omega), cond_true, Option.bind_some]
      dsimp only
      rw [show ((vw (W : Int) x).2.1, (vw (W : Int) x).2.2.1, ()) = wp x from rfl, word_Shr_ok hx, Option.bind_some, show (m : Int) - 1 - (k : Int) = ((m - 1 - k : Nat) : Int) by omega, show IntKind.i64.wrap (8 * ((m - 1 - k : Nat) : Int)) = ((8 * (m - 1 - k) : Nat) : Int) by rw [wrap_i64 (by omega) (by omega)]; omega]
      have hmv : moved x (-((8 * (m - 1 - k) : Nat) : Int)) = x / 2 ^ (8 * (m - 1 - k)) := by
        unfold moved
        by_cases h0 : m - 1 - k = 0
        · rw [h0, if_pos (by omega), if_pos (by omega), show (-((8 * 0 : Nat) : Int)).toNat = 0 from rfl, show 2 ^ (8 * 0) = 1 from rfl, Nat.mul_one, Nat.div_one, Nat.mod_eq_of_lt hx]
        · rw [if_neg (by omega), show (-(-((8 * (m - 1 - k) : Nat) : Int))).toNat = 8 * (m - 1 - k) by omega]
      have hu : IntKind.u8.wrap (wp (moved x (-((8 * (m - 1 - k) : Nat) : Int)))).2.1 = ((x / 2 ^ (8 * (m - 1 - k)) % 256 : Nat) : Int) := by
        rw [hmv]
        generalize x / 2 ^ (8 * (m - 1 - k)) = q
        rw [wu8]
        show ((q % 18446744073709551616 : Nat) : Int) % 256 = _
        omega
      dsimp only
      rw [hu, roomI_ok (by simp only [List.length_append, lrow_len, List.length_cons, List.length_nil]; omega), Option.bind_some, List.append_assoc, ← lrow_succ, wrap_i64 (by omega) (by omega), show ((m - 1 - k : Nat) : Int) - 1 = (m : Int) - 1 - ((k + 1 : Nat) : Int) by omega]
      rfl
    · dsimp only
      unfold wire_Vec_s0
      rw [decide_eq_false (show ¬ (m : Int) - 1 - (m : Int) ≥ 0 by omega), cond_false, List.append_assoc]
      rfl

theorem ref03_Of_ok {w : Int} {x : Nat} (h1 : 1 ≤ w) (h2 : w ≤ 128) (hx : x < 340282366920938463463374607431768211456) : ref03_Of (vw w x) = some ((high x w.toNat, ()), ()) := by
  unfold ref03_Of
  have hpv : ((vw w x).1, (vw w x).2.1, (vw w x).2.2.1, ()) = vw w x := rfl
  rw [hpv, ref02_Bits_ok hx, Option.bind_some]
  dsimp only
  obtain ⟨W, rfl⟩ : ∃ W : Nat, w = W := ⟨w.toNat, by omega⟩
  rw [show (min (W : Int) 128).toNat = W by omega, Int.toNat_natCast, lrow_len, wrap_i64 (by omega) (by omega)]
  have key := loop_up (f := fun (z : ((List Bool) × (List Bool) × Int × Unit) × (Unit)) => ref03_Of_s0 z.1.1 z.1.2.1 z.1.2.2.1) (fun k => ((lrow W x.testBit, lrow k (fun j => x.testBit (W - 1 - j)), (W : Int) - 1 - (k : Int), ()), ())) W (r := ((high x W, ()), ())) ?_ ?_ 0 (by omega)
  · rw [lrow_zero, show (W : Int) - 1 - ((0 : Nat) : Int) = (W : Int) - 1 by omega] at key
    exact key
  · intro k hk
    dsimp only
    unfold ref03_Of_s0
    rw [decide_eq_true (show (W : Int) - 1 - (k : Int) ≥ 0 by omega), cond_true, show (W : Int) - 1 - (k : Int) = ((W - 1 - k : Nat) : Int) by omega, lrow_len, ck_nat (show W - 1 - k < W by omega), lrow_rd _ (show W - 1 - k < W by omega), Option.bind_some, roomI_ok (by rw [lrow_len]; simp only [List.length_cons, List.length_nil]; omega), Option.bind_some, ← lrow_succ, wrap_i64 (by omega) (by omega), show ((W - 1 - k : Nat) : Int) - 1 = (W : Int) - 1 - ((k + 1 : Nat) : Int) by omega]
  · dsimp only
    unfold ref03_Of_s0
    rw [decide_eq_false (show ¬ (W : Int) - 1 - (W : Int) ≥ 0 by omega), cond_false]
    rfl

theorem pads {x W m : Nat} (hl : bitLen x ≤ W) (hm : m = (W + 7) / 8) : lrow (8 * m - W) (fun _ => false) ++ high x W = high x (8 * m) := by
  unfold high
  have e : lrow (8 * m) (fun j => x.testBit (8 * m - 1 - j)) = lrow (8 * m - W) (fun j => x.testBit (8 * m - 1 - j)) ++ lrow W (fun j => x.testBit (8 * m - 1 - (8 * m - W + j))) := by
    rw [← lrow_add, show 8 * m - W + W = 8 * m by omega]
  rw [e]
  congr 1
  · exact lrow_ext fun i hi => (bit_out hl (by omega)).symm
  · exact lrow_ext fun i hi => by rw [show 8 * m - 1 - (8 * m - W + i) = W - 1 - i by omega]

theorem ref07_Vec_ok {w : Int} {x : Nat} (hx : x < 340282366920938463463374607431768211456) : ref07_Vec (vw w x) = some ((enc w x, ()), ()) := by
  unfold ref07_Vec enc
  have hpv : ((vw w x).1, (vw w x).2.1, (vw w x).2.2.1, ()) = vw w x := rfl
  rw [hpv, ref02_May_ok hx, Option.bind_some]
  cases h : may w x
  · rfl
  · obtain ⟨h1, h2, h3⟩ := may_of h
    simp only [Bool.not_true, cond_false, cond_true]
    obtain ⟨W, rfl⟩ : ∃ W : Nat, w = W := ⟨w.toNat, by omega⟩
    rw [Int.toNat_natCast]
    generalize hm : (W + 7) / 8 = m
    have key := loop_up (f := fun (z : ((List Bool) × Unit) × ((Int × Int × Int × Unit) × Unit)) => ref07_Vec_s0 z.1.1 z.2.1) (fun k => ((lrow k (fun _ => false), ()), vw (W : Int) x, ())) (8 * m - W) (r := (((W : Int) :: be x m, ()), ())) ?_ ?_ 0 (by omega)
    · exact key
    · intro k hk
      dsimp only
      unfold ref07_Vec_s0
      rw [lrow_len, show (vw (W : Int) x).1 = (W : Int) from rfl, wrap_i64 (by omega) (by omega), Int.tmod_eq_emod_of_nonneg (by omega), decide_eq_false (show ¬ ((k : Int) + (W : Int)) % 8 = 0 by omega), Bool.not_false, cond_true, roomI_ok (by rw [lrow_len]; simp only [List.length_cons, List.length_nil]; omega), Option.bind_some, ← lrow_succ (f := fun _ => false)]
      rfl
    · dsimp only
      unfold ref07_Vec_s0
      rw [lrow_len, show (vw (W : Int) x).1 = (W : Int) from rfl, wrap_i64 (by omega) (by omega), Int.tmod_eq_emod_of_nonneg (by omega), decide_eq_true (show (((8 * m - W : Nat) : Int) + (W : Int)) % 8 = 0 by omega), Bool.not_true, cond_false]
      rw [show ((W : Int), (vw (W : Int) x).2.1, (vw (W : Int) x).2.2.1, ()) = vw (W : Int) x from rfl, ref03_Of_ok h1 h2 hx, Option.bind_some, Int.toNat_natCast]
      dsimp only
      rw [roomI_ok (by rw [lrow_len, high_len]; omega), Option.bind_some, pads (by omega) hm.symm, ref03_Bytes_ok (by omega), Option.bind_some]
      dsimp only
      rw [wrap_u8 (by omega) (by omega), roomI_ok (by rw [be_len]; simp only [List.length_cons, List.length_nil]; omega)]
      rfl

theorem put1 {b : List Int} {n : Int} (hb : b.length ≤ 1000000) (h0 : 0 ≤ n) (h1 : n < 256) : wire_put b n 1 = some ((b ++ [n], ()), ()) := by
  have := wire_put_ok (n := n) (m := 1) hb (by omega)
  rw [be1 h0 h1] at this
  exact this

/-- vectors, one after the other -/
def encs : List (Int × Int × Int × Unit) → List Int
  | [] => []
  | v :: l => enc v.1 (v.2.1.toNat * 18446744073709551616 + v.2.2.1.toNat) ++ encs l

theorem encs_append : ∀ l l' : List (Int × Int × Int × Unit), encs (l ++ l') = encs l ++ encs l'
  | [], _ => rfl
  | v :: l, l' => by
    show enc _ _ ++ encs (l ++ l') = (enc _ _ ++ encs l) ++ encs l'
    rw [encs_append l l', List.append_assoc]

theorem encs_len : ∀ l : List (Int × Int × Int × Unit), (encs l).length ≤ 17 * l.length
  | [] => by simp [encs]
  | v :: l => by
    show (enc _ _ ++ encs l).length ≤ _
    have h1 := enc_len v.1 (v.2.1.toNat * 18446744073709551616 + v.2.2.1.toNat)
    have h2 := encs_len l
    rw [List.length_append, List.length_cons]
    omega

theorem take_succ_getD {α : Type} {l : List α} {i : Nat} (d : α) (h : i < l.length) : l.take (i + 1) = l.take i ++ [l.getD i d] := by
  rw [List.take_succ_eq_append_getElem h]
  simp [List.getD, List.getElem?_eq_getElem h]

theorem rd_getD' {α : Type} {l : List α} {i : Nat} (d : α) (h : i < l.length) : rdI l (i : Int) = some (l.getD i d) := by
  unfold rdI
  rw [if_pos (by omega)]
  simp [List.getD, List.getElem?_eq_getElem h]

def okV (v : Int × Int × Int × Unit) : Prop := inR .u64 v.2.1 = true ∧ inR .u64 v.2.2.1 = true

theorem okV_vw {v : Int × Int × Int × Unit} (h : okV v) : v.2.1.toNat * 18446744073709551616 + v.2.2.1.toNat < 340282366920938463463374607431768211456 ∧ v = vw v.1 (v.2.1.toNat * 18446744073709551616 + v.2.2.1.toNat) := by
  have h1 := u64_of h.1
  have h2 := u64_of h.2
  refine ⟨by omega, ?_⟩
  unfold vw wp
  refine Prod.ext rfl (Prod.ext ?_ (Prod.ext ?_ rfl))
  · dsimp only
    omega
  · dsimp only
    omega

def encVecs (l : List (Int × Int × Int × Unit)) : List Int := if l.length ≤ 255 then (l.length : Int) :: encs l else [0]

theorem take_lt {l : List (Int × Int × Int × Unit)} {i : Nat} (h : i < l.length) : encs (l.take (i + 1)) = encs (l.take i) ++ enc (l.getD i (0, 0, 0, ())).1 ((l.getD i (0, 0, 0, ())).2.1.toNat * 18446744073709551616 + (l.getD i (0, 0, 0, ())).2.2.1.toNat) := by
  rw [take_succ_getD (0, 0, 0, ()) h, encs_append]
  congr 1
  show enc _ _ ++ [] = _
  rw [List.append_nil]

theorem getD_mem {α : Type} {l : List α} {i : Nat} (d : α) (h : i < l.length) : l.getD i d ∈ l := by
  simp only [List.getD, List.getElem?_eq_getElem h, Option.getD_some]
  exact List.getElem_mem h

theorem wire_Vecs_ok {b : List Int} {l : List (Int × Int × Int × Unit)} (hb : b.length ≤ 800000) (hl : ∀ v ∈ l, okV v) : wire_Vecs b l = some ((b ++ encVecs l, ()), ()) := by
  unfold wire_Vecs encVecs
  by_cases h : l.length ≤ 255
  · rw [decide_eq_false (show ¬ (l.length : Int) > 255 by omega), cond_false, put1 (by omega) (by omega) (by omega), Option.bind_some, if_pos h]
    have key := loop_up (f := fun (z : ((List Int) × (List (Int × Int × Int × Unit)) × Int × Int × Unit) × (Unit)) => wire_Vecs_s0 z.1.1 z.1.2.1 z.1.2.2.1 z.1.2.2.2.1) (fun i => ((b ++ [(l.length : Int)] ++ encs (l.take i), l, (l.length : Int), (i : Int), ()), ())) l.length (r := ((b ++ (l.length : Int) :: encs l, ()), ())) ?_ ?_ 0 (by omega)
    · rw [List.take_zero, show encs [] = [] from rfl, List.append_nil] at key
      exact key
    · intro i hi
      dsimp only
      unfold wire_Vecs_s0
      obtain ⟨hx, e⟩ := okV_vw (hl _ (getD_mem (0, 0, 0, ()) hi))
      have hlen := encs_len (l.take i)
      rw [List.length_take] at hlen
      rw [decide_eq_true (show (i : Int) < (l.length : Int) by omega), cond_true, rd_getD' (0, 0, 0, ()) hi, Option.bind_some, take_lt hi]
      generalize l.getD i (0, 0, 0, ()) = v at hx e ⊢
      have := wire_Vec_ok (b := b ++ [(l.length : Int)] ++ encs (l.take i)) (w := v.1) (by simp only [List.length_append, List.length_cons, List.length_nil]; omega) hx
      rw [← e] at this
      rw [this, Option.bind_some, wi64 (by omega), List.append_assoc (b ++ [(l.length : Int)])]
    · dsimp only
      unfold wire_Vecs_s0
      rw [decide_eq_false (show ¬ (l.length : Int) < (l.length : Int) by omega), cond_false, List.take_length, List.append_assoc]
      rfl
  · rw [decide_eq_true (show (l.length : Int) > 255 by omega), cond_true, put1 (by omega) (by omega) (by omega), if_neg h]
    rfl

def encNums (l : List Int) : List Int := if l.length ≤ 255 then (l.length : Int) :: l.map IntKind.u8.wrap else [0]

theorem map_take {l : List Int} {i : Nat} (h : i < l.length) : (l.take (i + 1)).map IntKind.u8.wrap = (l.take i).map IntKind.u8.wrap ++ [IntKind.u8.wrap (l.getD i 0)] := by
  rw [take_succ_getD 0 h, List.map_append]
  rfl

theorem wire_Numbers_ok {b : List Int} {l : List Int} (hb : b.length ≤ 800000) : wire_Numbers b l = some ((b ++ encNums l, ()), ()) := by
  unfold wire_Numbers encNums
  by_cases h : l.length ≤ 255
  · rw [decide_eq_false (show ¬ (l.length : Int) > 255 by omega), cond_false, put1 (by omega) (by omega) (by omega), Option.bind_some, if_pos h]
    have key := loop_up (f := fun (z : ((List Int) × (List Int) × Int × Int × Unit) × (Unit)) => wire_Numbers_s0 z.1.1 z.1.2.1 z.1.2.2.1 z.1.2.2.2.1) (fun i => ((b ++ [(l.length : Int)] ++ (l.take i).map IntKind.u8.wrap, l, (l.length : Int), (i : Int), ()), ())) l.length (r := ((b ++ (l.length : Int) :: l.map IntKind.u8.wrap, ()), ())) ?_ ?_ 0 (by omega)
    · rw [List.take_zero, List.map_nil, List.append_nil] at key
      exact key
    · intro i hi
      dsimp only
      unfold wire_Numbers_s0
      rw [decide_eq_true (show (i : Int) < (l.length : Int) by omega), cond_true, rd_getD' 0 hi, Option.bind_some, map_take hi, roomI_ok (by simp only [List.length_append, List.length_map, List.length_take, List.length_cons, List.length_nil]; omega), Option.bind_some, wi64 (by omega), List.append_assoc (b ++ [(l.length : Int)])]
    · dsimp only
      unfold wire_Numbers_s0
      rw [decide_eq_false (show ¬ (l.length : Int) < (l.length : Int) by omega), cond_false, List.take_length, List.append_assoc]
      rfl
  · rw [decide_eq_true (show (l.length : Int) > 255 by omega), cond_true, put1 (by omega) (by omega) (by omega), if_neg h]
    rfl

end Go.L

namespace Go.L
open Go Go.Pv
set_option maxRecDepth 100000

abbrev V4 := Int × Int × Int × Unit
abbrev Cl := Int × List V4 × Unit
abbrev En := List V4 × List V4 × Int × Int × Cl × Unit
abbrev Up := Int × Int × En × Int × List Int × Unit

/-- a loop that looks for the first thing of a kind -/
theorem idx_any {α : Type} {p : α → Bool} {f : (List α × Int × Int × Unit) × Unit → Option (((List α × Int × Int × Unit) × Unit) ⊕ ((Int × Unit) × Unit))} (l : List α)
    (hf : ∀ (i : Nat) (h : i < l.length), f ((l, (l.length : Int), (i : Int), ()), ()) = bif p l[i] then some (.inr (((i : Int), ()), ())) else some (.inl ((l, (l.length : Int), ((i + 1 : Nat) : Int), ()), ())))
    (hend : f ((l, (l.length : Int), (l.length : Int), ()), ()) = some (.inr (((-1), ()), ()))) :
    ∃ i : Int, loopR f ((l, (l.length : Int), 0, ()), ()) = some ((i, ()), ()) ∧ decide (i ≥ 0) = l.any p := by
  have main : ∀ k i : Nat, l.length - i = k → i ≤ l.length → ∃ j : Int, loopR f ((l, (l.length : Int), (i : Int), ()), ()) = some ((j, ()), ()) ∧ decide (j ≥ 0) = (l.drop i).any p := by
    intro k
    induction k with
    | zero =>
      intro i hk hi
      have : i = l.length := by omega
      subst this
      exact ⟨-1, loopR_out hend, by simp⟩
    | succ k ih =>
      intro i hk hi
      have hil : i < l.length := by omega
      have hd : l.drop i = l[i] :: l.drop (i + 1) := List.drop_eq_getElem_cons hil
      have h := hf i hil
      cases hp : p l[i] with
      | true =>
        rw [hp, cond_true] at h
        exact ⟨(i : Int), loopR_out h, by rw [hd, List.any_cons, hp]; simp⟩
      | false =>
        rw [hp, cond_false] at h
        obtain ⟨j, h1, h2⟩ := ih (i + 1) (by omega) (by omega)
        exact ⟨j, loopR_on h h1, by rw [hd, List.any_cons, hp, h2]; rfl⟩
  exact main l.length 0 (by omega) (by omega)

/-- a loop that ends at the first thing of a kind -/
theorem scan_any {σ ρ α : Type} {p : α → Bool} {f : σ → Option (σ ⊕ ρ)} (l : List α) (st : Nat → σ) (rF rE : ρ) (hf : ∀ (i : Nat) (h : i < l.length), f (st i) = bif p l[i] then some (.inr rF) else some (.inl (st (i + 1)))) (hend : f (st l.length) = some (.inr rE)) :
    loopR f (st 0) = some (bif l.any p then rF else rE) := by
  have main : ∀ k i : Nat, l.length - i = k → i ≤ l.length → loopR f (st i) = some (bif (l.drop i).any p then rF else rE) := by
    intro k
    induction k with
    | zero =>
      intro i hk hi
      have : i = l.length := by omega
      subst this
      rw [List.drop_length]
      exact loopR_out hend
    | succ k ih =>
      intro i hk hi
      have hil : i < l.length := by omega
      have hd : l.drop i = l[i] :: l.drop (i + 1) := List.drop_eq_getElem_cons hil
      have h := hf i hil
      cases hp : p l[i] with
      | true =>
        rw [hp, cond_true] at h
        rw [hd, List.any_cons, hp]
        exact loopR_out h
      | false =>
        rw [hp, cond_false] at h
        rw [hd, List.any_cons, hp, Bool.false_or]
        exact loopR_on h (ih (i + 1) (by omega) (by omega))
  exact main l.length 0 (by omega) (by omega)

theorem rdI_get {α : Type} {l : List α} {i : Nat} (h : i < l.length) : rdI l (i : Int) = some l[i] := by
  unfold rdI
  rw [if_pos (by omega), Int.toNat_natCast, List.getElem?_eq_getElem h]

def mayV (v : V4) : Bool := may v.1 (v.2.1.toNat * 18446744073709551616 + v.2.2.1.toNat)

theorem mayV_ok {v : V4} (h : okV v) : vec_May v = some ((mayV v, ()), ()) ∧ ref02_May v = some ((mayV v, ()), ()) := by
  obtain ⟨h1, h2⟩ := okV_vw h
  unfold mayV
  generalize v.2.1.toNat * 18446744073709551616 + v.2.2.1.toNat = x at h1 h2
  constructor
  · rw [h2]; exact vec_May_ok h1
  · rw [h2]; exact ref02_May_ok h1

def rowsB (l : List V4) (m : Nat) : Bool := decide (l.length ≤ m) && l.all mayV

theorem contains_rows {l : List V4} (hl : ∀ v ∈ l, okV v) (hn : l.length ≤ 1000000) : slices_ContainsFunc_api_Vec_api_Vec_d9d l = some ((l.any fun v => !mayV v, ()), ()) := by
  unfold slices_ContainsFunc_api_Vec_api_Vec_d9d slices_IndexFunc_api_Vec_api_Vec_d9d
  obtain ⟨i, h1, h2⟩ := idx_any (p := fun v => !mayV v) (f := fun (z : ((List V4) × Int × Int × Unit) × Unit) => slices_IndexFunc_api_Vec_api_Vec_d9d_s0 z.1.1 z.1.2.1 z.1.2.2.1) l
    (fun i h => by
      dsimp only
      unfold slices_IndexFunc_api_Vec_api_Vec_d9d_s0 batch_rows_1
      rw [dlt h, cond_true, rdI_get h, Option.bind_some, (mayV_ok (hl l[i] (List.getElem_mem h))).1]
      simp only [Option.bind_some, wi64 (show i < 1000000000 by omega)])
    (by
      dsimp only
      unfold slices_IndexFunc_api_Vec_api_Vec_d9d_s0
      rw [dge, cond_false])
  rw [h1, Option.bind_some, h2]

theorem all_any {α : Type} (l : List α) (p : α → Bool) : (!(l.any fun v => !p v)) = l.all p := by
  induction l with
  | nil => rfl
  | cons a l ih => simp only [List.any_cons, List.all_cons, Bool.not_or, Bool.not_not, ih]

theorem batch_rows_ok {l : List V4} {m : Nat} (hl : ∀ v ∈ l, okV v) (hn : l.length ≤ 1000000) : batch_rows l (m : Int) = some ((rowsB l m, ()), ()) := by
  unfold batch_rows rowsB
  have hd : decide ((l.length : Int) ≤ (m : Int)) = decide (l.length ≤ m) := decide_eq_decide.2 (by omega)
  rw [hd]
  cases decide (l.length ≤ m) with
  | false => simp only [gsome, gfalse, cond_false, Bool.false_and]
  | true => simp only [gsome, gtrue, contains_rows hl hn, Option.bind_some, cond_true, all_any, Bool.true_and]

def inB (n lo hi : Int) : Bool := decide (lo ≤ n) && decide (n ≤ hi)

theorem within_ok (n lo hi : Int) : batch_within n lo hi = some ((inB n lo hi, ()), ()) := by
  unfold batch_within inB
  simp only [gsome, ge_iff_le]
  cases decide (lo ≤ n) <;> rfl

theorem dlen {α : Type} (l : List α) : decide ((l.length : Int) = 0) = l.isEmpty := by
  cases l with
  | nil => rfl
  | cons a l => exact decide_eq_false (by simp; omega)

def noRows (x : En) : Bool := x.1.isEmpty && x.2.1.isEmpty && decide (x.2.2.1 = 0) && decide (x.2.2.2.1 = 0)
def hasRows (x : En) : Bool := rowsB x.1 4 && rowsB x.2.1 4 && inB x.2.2.1 0 65535 && inB x.2.2.2.1 0 65535
def noCall (c : Cl) : Bool := decide (c.1 = 0) && c.2.1.isEmpty
def hasCall (c : Cl) : Bool := inB c.1 0 255 && rowsB c.2.1 8
def tabB (u : Up) : Bool := inB u.2.1 0 255 && decide (u.2.2.2.1 = 0) && u.2.2.2.2.1.isEmpty
def grpB (u : Up) : Bool := decide (u.2.1 = 0) && noRows u.2.2.1 && noCall u.2.2.1.2.2.2.2.1 && inB u.2.2.2.1 0 255 && decide (u.2.2.2.2.1.length ≤ 64) && u.2.2.2.2.1.all fun n => inB n 0 255

/-- may an update be? -/
def mayU (u : Up) : Bool :=
  if u.1 = 0 ∨ u.1 = 1 then tabB u && hasRows u.2.2.1 && hasCall u.2.2.1.2.2.2.2.1
  else if u.1 = 2 then tabB u && hasRows u.2.2.1 && noCall u.2.2.1.2.2.2.2.1
  else if u.1 = 3 then tabB u && noRows u.2.2.1 && hasCall u.2.2.1.2.2.2.2.1
  else if u.1 = 4 then grpB u
  else false

def okL (l : List V4) : Prop := (∀ v ∈ l, okV v) ∧ l.length ≤ 1000
def okU (u : Up) : Prop := okL u.2.2.1.1 ∧ okL u.2.2.1.2.1 ∧ okL u.2.2.1.2.2.2.2.1.2.1 ∧ u.2.2.2.2.1.length ≤ 1000

theorem bor (b : Bool) : b = false ∨ b = true := by cases b <;> simp

theorem blank_ok (x : En) : batch_blank x = some ((noRows x, ()), ()) := by
  unfold batch_blank noRows
  rcases bor x.1.isEmpty with h | h <;> simp only [gsome, dlen, h, cond_false, cond_true, Bool.false_and, Bool.true_and]
  rcases bor x.2.1.isEmpty with h | h <;> simp only [h, cond_false, cond_true, Bool.false_and, Bool.true_and]
  rcases bor (decide (x.2.2.1 = 0)) with h | h <;> simp only [h, cond_false, cond_true, Bool.false_and, Bool.true_and]

theorem match_ok {x : En} (h1 : okL x.1) (h2 : okL x.2.1) : batch_match x = some ((hasRows x, ()), ()) := by
  have e1 := batch_rows_ok (m := 4) h1.1 (by have := h1.2; omega)
  have e2 := batch_rows_ok (m := 4) h2.1 (by have := h2.2; omega)
  have e1 : batch_rows x.1 4 = _ := e1
  have e2 : batch_rows x.2.1 4 = _ := e2
  unfold batch_match hasRows
  rw [e1, Option.bind_some]
  dsimp only
  cases rowsB x.1 4 with
  | false => simp only [gfalse, gsome, cond_false, Bool.false_and]
  | true =>
    simp only [gtrue, gsome, cond_true, e2, Option.bind_some, Bool.true_and]
    cases rowsB x.2.1 4 with
    | false => simp only [gfalse, gsome, cond_false, Bool.false_and]
    | true =>
      simp only [gtrue, gsome, cond_true, within_ok, Option.bind_some, Bool.true_and]
      cases inB x.2.2.1 0 65535 with
      | false => simp only [gfalse, gsome, cond_false, Bool.false_and]
      | true => simp only [gtrue, gsome, cond_true, Option.bind_some, Bool.true_and]

theorem call_ok {c : Cl} (h : okL c.2.1) : batch_call c = some ((hasCall c, ()), ()) := by
  have e1 : batch_rows c.2.1 8 = _ := batch_rows_ok (m := 8) h.1 (by have := h.2; omega)
  unfold batch_call hasCall
  rw [within_ok, Option.bind_some]
  dsimp only
  cases inB c.1 0 255 with
  | false => simp only [gfalse, gsome, cond_false, Bool.false_and]
  | true => simp only [gtrue, gsome, cond_true, e1, Option.bind_some, Bool.true_and]

theorem contains_ports {l : List Int} (hn : l.length ≤ 1000000) : slices_ContainsFunc_int_int_6be l = some ((l.any fun n => !inB n 0 255, ()), ()) := by
  unfold slices_ContainsFunc_int_int_6be slices_IndexFunc_int_int_6be
  obtain ⟨i, h1, h2⟩ := idx_any (p := fun n => !inB n 0 255) (f := fun (z : ((List Int) × Int × Int × Unit) × Unit) => slices_IndexFunc_int_int_6be_s0 z.1.1 z.1.2.1 z.1.2.2.1) l
    (fun i h => by
      dsimp only
      unfold slices_IndexFunc_int_int_6be_s0 batch_group_1
      rw [dlt h, cond_true, rdI_get h, Option.bind_some, within_ok]
      simp only [Option.bind_some, wi64 (show i < 1000000000 by omega)])
    (by
      dsimp only
      unfold slices_IndexFunc_int_int_6be_s0
      rw [dge, cond_false])
  rw [h1, Option.bind_some, h2]

theorem group_ok {u : Up} (h : okU u) : batch_group u = some ((grpB u, ()), ()) := by
  have hp := contains_ports (l := u.2.2.2.2.1) (by have := h.2.2.2; omega)
  have hd : decide ((u.2.2.2.2.1.length : Int) ≤ 64) = decide (u.2.2.2.2.1.length ≤ 64) := decide_eq_decide.2 (by omega)
  unfold batch_group grpB noCall
  have he : ((u.2.2.1.1, u.2.2.1.2.1, u.2.2.1.2.2.1, u.2.2.1.2.2.2.1, (u.2.2.1.2.2.2.2.1.1, u.2.2.1.2.2.2.2.1.2.1, ()), ()) : En) = u.2.2.1 := rfl
  rw [he]
  rcases bor (decide (u.2.1 = 0)) with h | h <;> simp only [h, gfalse, gtrue, gsome, cond_false, cond_true, blank_ok, Option.bind_some, Bool.false_and, Bool.true_and]
  rcases bor (noRows u.2.2.1) with h | h <;> simp only [h, gfalse, gtrue, gsome, cond_false, cond_true, Option.bind_some, Bool.false_and, Bool.true_and]
  rcases bor (decide (u.2.2.1.2.2.2.2.1.1 = 0)) with h | h <;> simp only [h, gfalse, gtrue, gsome, cond_false, cond_true, dlen, Option.bind_some, Bool.false_and, Bool.true_and]
  rcases bor u.2.2.1.2.2.2.2.1.2.1.isEmpty with h | h <;> simp only [h, gfalse, gtrue, gsome, cond_false, cond_true, within_ok, Option.bind_some, Bool.false_and, Bool.true_and]
  rcases bor (inB u.2.2.2.1 0 255) with h | h <;> simp only [h, gfalse, gtrue, gsome, cond_false, cond_true, hd, Option.bind_some, Bool.false_and, Bool.true_and]
  rcases bor (decide (u.2.2.2.2.1.length ≤ 64)) with h | h <;> simp only [h, gfalse, gtrue, gsome, cond_false, cond_true, hp, Option.bind_some, Bool.false_and, Bool.true_and, all_any]

theorem matches_ok (k : Int) : batch_matches k = some ((decide (k = 0) || decide (k = 1) || decide (k = 2), ()), ()) := by
  unfold batch_matches
  simp only [gsome]
  cases decide (k = 0) <;> cases decide (k = 1) <;> cases decide (k = 2) <;> rfl

theorem calls_ok (k : Int) : batch_calls k = some ((decide (k = 0) || decide (k = 1) || decide (k = 3), ()), ()) := by
  unfold batch_calls
  simp only [gsome]
  cases decide (k = 0) <;> cases decide (k = 1) <;> cases decide (k = 3) <;> rfl

end Go.L

namespace Go.L
open Go Go.Pv
set_option maxRecDepth 100000

theorem may_ok {u : Up} (h : okU u) : batch_May u = some ((mayU u, ()), ()) := by
  have hg := group_ok h
  obtain ⟨k, u⟩ := u
  have hm := match_ok (x := u.2.1) h.1 h.2.1
  have hc := call_ok (c := u.2.1.2.2.2.2.1) h.2.2.1
  have eU : ((k, u.1, (u.2.1.1, u.2.1.2.1, u.2.1.2.2.1, u.2.1.2.2.2.1, (u.2.1.2.2.2.2.1.1, u.2.1.2.2.2.2.1.2.1, ()), ()), u.2.2.1, u.2.2.2.1, ()) : Up) = (k, u) := rfl
  have eX : ((u.2.1.1, u.2.1.2.1, u.2.1.2.2.1, u.2.1.2.2.2.1, (u.2.1.2.2.2.2.1.1, u.2.1.2.2.2.2.1.2.1, ()), ()) : En) = u.2.1 := rfl
  have eC : ((u.2.1.2.2.2.2.1.1, u.2.1.2.2.2.2.1.2.1, ()) : Cl) = u.2.1.2.2.2.2.1 := rfl
  unfold batch_May mayU
  simp only [eU, eX, eC, within_ok, Option.bind_some, hg]
  by_cases hk : k = 0 ∨ k = 1 ∨ k = 2 ∨ k = 3 ∨ k = 4
  · have hi : inB k 0 4 = true := by unfold inB; rw [decide_eq_true (by omega), decide_eq_true (by omega)]; rfl
    rw [hi]
    simp only [Bool.not_true, cond_false, blank_ok, matches_ok, calls_ok, Option.bind_some, hm, hc]
    have fin : ∀ E C : Bool, batch_within u.1 0 255 = some ((inB u.1 0 255, ()), ()) := fun _ _ => within_ok _ _ _
    rcases hk with rfl | rfl | rfl | rfl | rfl
    · unfold tabB
      simp only [decide_true, decide_false, Int.reduceEq, cond_false, cond_true, Bool.or_true, Bool.true_or, Bool.or_false, true_or, if_true]
      rcases bor (hasRows u.2.1) with h | h <;> simp only [h, gfalse, gtrue, gsome, cond_false, cond_true, Option.bind_some, Bool.false_and, Bool.true_and, Bool.and_false, Bool.and_true, hc]
      rcases bor (hasCall u.2.1.2.2.2.2.1) with h | h <;> simp only [h, gfalse, gtrue, gsome, cond_false, cond_true, within_ok, Option.bind_some, Bool.false_and, Bool.true_and, Bool.and_false, Bool.and_true]
      rcases bor (inB u.1 0 255) with h | h <;> simp only [h, gfalse, gtrue, gsome, cond_false, cond_true, Option.bind_some, Bool.false_and, Bool.true_and, Bool.and_false, Bool.and_true]
      rcases bor (decide (u.2.2.1 = 0)) with h | h <;> simp only [h, gfalse, gtrue, gsome, cond_false, cond_true, Option.bind_some, Bool.false_and, Bool.true_and, Bool.and_false, Bool.and_true, dlen]
    · unfold tabB
      simp only [decide_true, decide_false, Int.reduceEq, cond_false, cond_true, Bool.or_true, Bool.true_or, Bool.false_or, Bool.or_false, or_true, if_true]
      rcases bor (hasRows u.2.1) with h | h <;> simp only [h, gfalse, gtrue, gsome, cond_false, cond_true, Option.bind_some, Bool.false_and, Bool.true_and, Bool.and_false, Bool.and_true, hc]
      rcases bor (hasCall u.2.1.2.2.2.2.1) with h | h <;> simp only [h, gfalse, gtrue, gsome, cond_false, cond_true, within_ok, Option.bind_some, Bool.false_and, Bool.true_and, Bool.and_false, Bool.and_true]
      rcases bor (inB u.1 0 255) with h | h <;> simp only [h, gfalse, gtrue, gsome, cond_false, cond_true, Option.bind_some, Bool.false_and, Bool.true_and, Bool.and_false, Bool.and_true]
      rcases bor (decide (u.2.2.1 = 0)) with h | h <;> simp only [h, gfalse, gtrue, gsome, cond_false, cond_true, Option.bind_some, Bool.false_and, Bool.true_and, Bool.and_false, Bool.and_true, dlen]
    · unfold tabB noCall
      simp only [decide_true, decide_false, Int.reduceEq, cond_false, cond_true, Bool.or_true, Bool.true_or, Bool.false_or, Bool.or_false, or_self, if_false, if_true]
      rcases bor (hasRows u.2.1) with h | h <;> simp only [h, gfalse, gtrue, gsome, cond_false, cond_true, Option.bind_some, Bool.false_and, Bool.true_and, Bool.and_false, Bool.and_true]
      rcases bor (decide (u.2.1.2.2.2.2.1.1 = 0)) with h | h <;> simp only [h, gfalse, gtrue, gsome, cond_false, cond_true, Option.bind_some, Bool.false_and, Bool.true_and, Bool.and_false, Bool.and_true, dlen]
      rcases bor u.2.1.2.2.2.2.1.2.1.isEmpty with h | h <;> simp only [h, gfalse, gtrue, gsome, cond_false, cond_true, within_ok, Option.bind_some, Bool.false_and, Bool.true_and, Bool.and_false, Bool.and_true]
      rcases bor (inB u.1 0 255) with h | h <;> simp only [h, gfalse, gtrue, gsome, cond_false, cond_true, Option.bind_some, Bool.false_and, Bool.true_and, Bool.and_false, Bool.and_true]
      rcases bor (decide (u.2.2.1 = 0)) with h | h <;> simp only [h, gfalse, gtrue, gsome, cond_false, cond_true, Option.bind_some, Bool.false_and, Bool.true_and, Bool.and_false, Bool.and_true, dlen]
    · unfold tabB
      simp only [decide_true, decide_false, Int.reduceEq, cond_false, cond_true, Bool.or_true, Bool.true_or, Bool.false_or, Bool.or_false, or_self, if_false, if_true]
      rcases bor (noRows u.2.1) with h | h <;> simp only [h, gfalse, gtrue, gsome, cond_false, cond_true, Option.bind_some, Bool.false_and, Bool.true_and, Bool.and_false, Bool.and_true, hc]
      rcases bor (hasCall u.2.1.2.2.2.2.1) with h | h <;> simp only [h, gfalse, gtrue, gsome, cond_false, cond_true, within_ok, Option.bind_some, Bool.false_and, Bool.true_and, Bool.and_false, Bool.and_true]
      rcases bor (inB u.1 0 255) with h | h <;> simp only [h, gfalse, gtrue, gsome, cond_false, cond_true, Option.bind_some, Bool.false_and, Bool.true_and, Bool.and_false, Bool.and_true]
      rcases bor (decide (u.2.2.1 = 0)) with h | h <;> simp only [h, gfalse, gtrue, gsome, cond_false, cond_true, Option.bind_some, Bool.false_and, Bool.true_and, Bool.and_false, Bool.and_true, dlen]
    · simp only [decide_true, cond_true, Int.reduceEq, or_self, if_false, if_true]
  · have hi : inB k 0 4 = false := by
      unfold inB
      rw [← Bool.decide_and]
      exact decide_eq_false (by omega)
    rw [hi, if_neg (by omega), if_neg (by omega), if_neg (by omega), if_neg (by omega)]
    rfl

end Go.L

namespace Go.L
open Go Go.Pv
set_option maxRecDepth 100000

def bytesU (u : Up) : List Int :=
  be (nat64 u.1) 1 ++ (if u.1 = 4 then be (nat64 u.2.2.2.1) 1 ++ encNums u.2.2.2.2.1 else
    be (nat64 u.2.1) 1 ++ ((if u.1 = 3 then [] else encVecs u.2.2.1.1 ++ (encVecs u.2.2.1.2.1 ++ (be (nat64 u.2.2.1.2.2.1) 2 ++ be (nat64 u.2.2.1.2.2.2.1) 2))) ++
      (if u.1 = 2 then [] else be (nat64 u.2.2.1.2.2.2.2.1.1) 1 ++ encVecs u.2.2.1.2.2.2.2.1.2.1)))

theorem be_one (n : Int) : be (nat64 n) 1 = [IntKind.u8.wrap n] := by
  have : be (nat64 n) 1 = [((nat64 n % 256 : Nat) : Int)] := by
    unfold be
    rw [lrow_succ, lrow_zero]
    simp
  rw [this, wu8]
  congr 1
  have := nat64_eq n
  omega

theorem wire_Byte_is {b : List Int} {n : Int} (hb : b.length ≤ 1000000) : wire_Byte b n = some ((b ++ be (nat64 n) 1, ()), ()) := by
  have h : wire_put b n 1 = _ := wire_put_ok (m := 1) hb (by omega)
  unfold wire_Byte
  rw [h]; rfl

theorem wire_Two_is {b : List Int} {n : Int} (hb : b.length ≤ 1000000) : wire_Two b n = some ((b ++ be (nat64 n) 2, ()), ()) := by
  have h : wire_put b n 2 = _ := wire_put_ok (m := 2) hb (by omega)
  unfold wire_Two
  rw [h]; rfl

theorem emp {α : Type} {l : List α} (h : l.isEmpty = true) : l.length = 0 := by
  cases l with
  | nil => rfl
  | cons a l => cases h

theorem mayU_len {u : Up} (h : mayU u = true) : (u.1 = 0 ∨ u.1 = 1 ∨ u.1 = 2 ∨ u.1 = 3 ∨ u.1 = 4) ∧ u.2.2.1.1.length ≤ 8 ∧ u.2.2.1.2.1.length ≤ 8 ∧ u.2.2.1.2.2.2.2.1.2.1.length ≤ 8 ∧ u.2.2.2.2.1.length ≤ 64 := by
  unfold mayU tabB grpB hasRows hasCall noRows noCall rowsB at h
  split at h
  · simp only [Bool.and_eq_true, decide_eq_true_eq] at h
    have := emp h.1.1.2
    exact ⟨by omega, by omega, by omega, by omega, by omega⟩
  split at h
  · simp only [Bool.and_eq_true, decide_eq_true_eq] at h
    have := emp h.1.1.2
    have := emp h.2.2
    exact ⟨by omega, by omega, by omega, by omega, by omega⟩
  split at h
  · simp only [Bool.and_eq_true, decide_eq_true_eq] at h
    have := emp h.1.1.2
    have := emp h.1.2.1.1.1
    have := emp h.1.2.1.1.2
    exact ⟨by omega, by omega, by omega, by omega, by omega⟩
  split at h
  · simp only [Bool.and_eq_true, decide_eq_true_eq] at h
    obtain ⟨⟨⟨⟨⟨h1, h2⟩, h3⟩, h4⟩, h5⟩, h6⟩ := h
    have := emp h2.1.1.1
    have := emp h2.1.1.2
    have := emp h3.2
    exact ⟨by omega, by omega, by omega, by omega, by omega⟩
  · cases h

theorem encVecs_len {l : List V4} (h : l.length ≤ 8) : (encVecs l).length ≤ 137 := by
  unfold encVecs
  have := encs_len l
  split
  · rw [List.length_cons]; omega
  · simp

theorem encNums_len {l : List Int} (h : l.length ≤ 64) : (encNums l).length ≤ 65 := by
  unfold encNums
  split
  · simp; omega
  · simp

theorem bytesU_len {u : Up} (h : mayU u = true) : (bytesU u).length ≤ 500 := by
  obtain ⟨_, h1, h2, h3, h4⟩ := mayU_len h
  have := encVecs_len h1
  have := encVecs_len h2
  have := encVecs_len h3
  have := encNums_len h4
  unfold bytesU
  split
  · simp only [List.length_append, be_len]; omega
  · split <;> split <;> simp only [List.length_append, be_len, List.length_nil] <;> omega

theorem one_ok {b : List Int} {u : Up} (hb : b.length ≤ 700000) (ho : okU u) (h : mayU u = true) : batch_one b u = some ((b ++ bytesU u, ()), ()) := by
  obtain ⟨hk, h1, h2, h3, h4⟩ := mayU_len h
  have l1 := encVecs_len h1
  have l2 := encVecs_len h2
  have l3 := encVecs_len h3
  obtain ⟨k, u⟩ := u
  have v1 : ∀ c : List Int, c.length ≤ 701000 → wire_Vecs c u.2.1.1 = _ := fun c hc => wire_Vecs_ok (b := c) (by omega) ho.1.1
  have v2 : ∀ c : List Int, c.length ≤ 701000 → wire_Vecs c u.2.1.2.1 = _ := fun c hc => wire_Vecs_ok (b := c) (by omega) ho.2.1.1
  have v3 : ∀ c : List Int, c.length ≤ 701000 → wire_Vecs c u.2.1.2.2.2.2.1.2.1 = _ := fun c hc => wire_Vecs_ok (b := c) (by omega) ho.2.2.1.1
  unfold batch_one bytesU
  dsimp only at hk h1 h2 h3 h4 l1 l2 l3 ⊢
  rw [wire_Byte_is (by omega), Option.bind_some, matches_ok, calls_ok]
  dsimp only
  rcases hk with rfl | rfl | rfl | rfl | rfl
  · simp only [decide_true, decide_false, Int.reduceEq, cond_true, cond_false, Bool.or_true, Bool.true_or, Bool.or_false, if_false]
    rw [wire_Byte_is (by simp [be_len]; omega), Option.bind_some]
    dsimp only
    simp only [Option.bind_some, cond_true]
    rw [v1 _ (by simp [be_len]; omega), Option.bind_some]
    dsimp only
    rw [v2 _ (by simp [be_len]; omega), Option.bind_some]
    dsimp only
    rw [wire_Two_is (by simp [be_len]; omega), Option.bind_some]
    dsimp only
    rw [wire_Two_is (by simp [be_len]; omega), Option.bind_some]
    dsimp only
    rw [wire_Byte_is (by simp [be_len]; omega), Option.bind_some]
    dsimp only
    rw [v3 _ (by simp [be_len]; omega), Option.bind_some]
    simp only [List.append_assoc]
  · simp only [decide_true, decide_false, Int.reduceEq, cond_true, cond_false, Bool.or_true, Bool.true_or, Bool.or_false, Bool.false_or, if_false]
    rw [wire_Byte_is (by simp [be_len]; omega), Option.bind_some]
    dsimp only
    simp only [Option.bind_some, cond_true]
    rw [v1 _ (by simp [be_len]; omega), Option.bind_some]
    dsimp only
    rw [v2 _ (by simp [be_len]; omega), Option.bind_some]
    dsimp only
    rw [wire_Two_is (by simp [be_len]; omega), Option.bind_some]
    dsimp only
    rw [wire_Two_is (by simp [be_len]; omega), Option.bind_some]
    dsimp only
    rw [wire_Byte_is (by simp [be_len]; omega), Option.bind_some]
    dsimp only
    rw [v3 _ (by simp [be_len]; omega), Option.bind_some]
    simp only [List.append_assoc]
  · simp only [decide_true, decide_false, Int.reduceEq, cond_true, cond_false, Bool.or_true, Bool.true_or, Bool.or_false, Bool.false_or, if_false, if_true]
    rw [wire_Byte_is (by simp [be_len]; omega), Option.bind_some]
    dsimp only
    simp only [Option.bind_some, cond_true, cond_false]
    rw [v1 _ (by simp [be_len]; omega), Option.bind_some]
    dsimp only
    rw [v2 _ (by simp [be_len]; omega), Option.bind_some]
    dsimp only
    rw [wire_Two_is (by simp [be_len]; omega), Option.bind_some]
    dsimp only
    rw [wire_Two_is (by simp [be_len]; omega), Option.bind_some]
    simp only [List.append_assoc, List.append_nil]
  · simp only [decide_true, decide_false, Int.reduceEq, cond_true, cond_false, Bool.or_true, Bool.true_or, Bool.or_false, Bool.false_or, if_false, if_true]
    rw [wire_Byte_is (by simp [be_len]; omega), Option.bind_some]
    dsimp only
    simp only [Option.bind_some, cond_true, cond_false]
    rw [wire_Byte_is (by simp [be_len]; omega), Option.bind_some]
    dsimp only
    rw [v3 _ (by simp [be_len]; omega), Option.bind_some]
    simp only [List.append_assoc, List.nil_append]
  · simp only [decide_true, Int.reduceEq, cond_true, if_true]
    rw [wire_Byte_is (by simp [be_len]; omega), Option.bind_some]
    dsimp only
    rw [wire_Numbers_ok (by simp [be_len]; omega), Option.bind_some]
    simp only [List.append_assoc]

theorem num1 (n : Int) : ref07_Number n 1 = some ((be (nat64 n) 1, ()), ()) := ref07_Number_ok (m := 1) (by omega)
theorem num2 (n : Int) : ref07_Number n 2 = some ((be (nat64 n) 2, ()), ()) := ref07_Number_ok (m := 2) (by omega)

theorem ref25_vecs_ok {l : List V4} (hl : ∀ v ∈ l, okV v) (hn : l.length ≤ 8) : ref25_vecs l = some ((encVecs l, ()), ()) := by
  unfold ref25_vecs
  rw [num1, Option.bind_some, be1 (by omega) (by omega)]
  have key := loop_up (f := fun (z : ((List V4) × (List Int) × Int × Unit) × Unit) => ref25_vecs_s0 z.1.1 z.1.2.1 z.1.2.2.1) (fun i => ((l, (l.length : Int) :: encs (l.take i), (i : Int), ()), ())) l.length (r := (((l.length : Int) :: encs l, ()), ()))
    (fun i hi => by
      dsimp only
      unfold ref25_vecs_s0
      rw [dlt hi, cond_true, rd_getD' (0, 0, 0, ()) hi, Option.bind_some]
      have hm := hl _ (getD_mem (0, 0, 0, ()) hi)
      obtain ⟨k1, k2⟩ := okV_vw hm
      have he := take_lt hi
      generalize l.getD i (0, 0, 0, ()) = v at *
      have hv : ref07_Vec v = some ((enc v.1 (v.2.1.toNat * 18446744073709551616 + v.2.2.1.toNat), ()), ()) := by
        generalize v.2.1.toNat * 18446744073709551616 + v.2.2.1.toNat = x at k1 k2
        rw [k2]; exact ref07_Vec_ok k1
      rw [hv, Option.bind_some]
      dsimp only
      have e1 := encs_len (l.take i)
      have e2 := enc_len v.1 (v.2.1.toNat * 18446744073709551616 + v.2.2.1.toNat)
      have e3 : (l.take i).length ≤ 8 := by rw [List.length_take]; omega
      rw [roomI_ok (by rw [List.length_cons]; omega), Option.bind_some, he, wi64 (by omega)]
      rfl)
    (by
      dsimp only
      unfold ref25_vecs_s0
      rw [dge, cond_false, List.take_length]) 0 (Nat.zero_le _)
  refine Eq.trans key ?_
  unfold encVecs
  rw [if_pos (by omega)]

theorem bytes_ok {u : Up} (ho : okU u) (h : mayU u = true) : ref25_Bytes u = some ((bytesU u, ()), ()) := by
  obtain ⟨hk, h1, h2, h3, h4⟩ := mayU_len h
  have l1 := encVecs_len h1
  have l2 := encVecs_len h2
  have l3 := encVecs_len h3
  have v1 := ref25_vecs_ok ho.1.1 h1
  have v2 := ref25_vecs_ok ho.2.1.1 h2
  have v3 := ref25_vecs_ok ho.2.2.1.1 h3
  have eU : ((u.1, u.2.1, (u.2.2.1.1, u.2.2.1.2.1, u.2.2.1.2.2.1, u.2.2.1.2.2.2.1, (u.2.2.1.2.2.2.2.1.1, u.2.2.1.2.2.2.2.1.2.1, ()), ()), u.2.2.2.1, u.2.2.2.2.1, ()) : Up) = u := rfl
  have hloop : ∀ c : List Int, c.length ≤ 100 → loopR (fun (z : ((List Int) × Int × Unit) × (Up × Unit)) => ref25_Bytes_s0 z.1.1 z.1.2.1 z.2.1) ((c, 0, ()), u, ()) = some ((c ++ u.2.2.2.2.1.map IntKind.u8.wrap, ()), ()) := by
    intro c hc
    have key := loop_up (f := fun (z : ((List Int) × Int × Unit) × (Up × Unit)) => ref25_Bytes_s0 z.1.1 z.1.2.1 z.2.1) (fun i => ((c ++ (u.2.2.2.2.1.take i).map IntKind.u8.wrap, (i : Int), ()), u, ())) u.2.2.2.2.1.length (r := ((c ++ u.2.2.2.2.1.map IntKind.u8.wrap, ()), ()))
      (fun i hi => by
        dsimp only
        unfold ref25_Bytes_s0
        have he := map_take hi
        rw [dlt hi, cond_true, rd_getD' 0 hi, Option.bind_some, num1, Option.bind_some]
        dsimp only
        rw [be_one, roomI_ok (by simp; omega), Option.bind_some, he, eU, wi64 (by omega), List.append_assoc])
      (by
        dsimp only
        unfold ref25_Bytes_s0
        rw [dge, cond_false, List.take_length]) 0 (Nat.zero_le _)
    refine Eq.trans ?_ key
    simp only [List.take_zero, List.map_nil, List.append_nil]
    rfl
  unfold ref25_Bytes
  simp only [num1, num2, Option.bind_some, v1, v2, v3, eU]
  unfold bytesU
  rcases hk with hk | hk | hk | hk | hk
  · simp only [hk, decide_false, Int.reduceEq, cond_true, cond_false, Bool.not_false, Bool.not_true, decide_true, if_false]
    rw [roomI_ok (by simp [be_len]), Option.bind_some, roomI_ok (by simp [be_len]; omega), Option.bind_some, roomI_ok (by simp [be_len]; omega), Option.bind_some, roomI_ok (by simp [be_len]; omega), Option.bind_some, roomI_ok (by simp [be_len]; omega), Option.bind_some, roomI_ok (by simp [be_len]; omega), Option.bind_some, roomI_ok (by simp [be_len]; omega), Option.bind_some]
    simp only [List.append_assoc]
  · simp only [hk, decide_false, Int.reduceEq, cond_true, cond_false, Bool.not_false, Bool.not_true, decide_true, if_false]
    rw [roomI_ok (by simp [be_len]), Option.bind_some, roomI_ok (by simp [be_len]; omega), Option.bind_some, roomI_ok (by simp [be_len]; omega), Option.bind_some, roomI_ok (by simp [be_len]; omega), Option.bind_some, roomI_ok (by simp [be_len]; omega), Option.bind_some, roomI_ok (by simp [be_len]; omega), Option.bind_some, roomI_ok (by simp [be_len]; omega), Option.bind_some]
    simp only [List.append_assoc]
  · simp only [hk, decide_false, Int.reduceEq, cond_true, cond_false, Bool.not_false, Bool.not_true, decide_true, if_false, if_true]
    rw [roomI_ok (by simp [be_len]), Option.bind_some, roomI_ok (by simp [be_len]; omega), Option.bind_some, roomI_ok (by simp [be_len]; omega), Option.bind_some, roomI_ok (by simp [be_len]; omega), Option.bind_some, roomI_ok (by simp [be_len]; omega), Option.bind_some]
    simp only [List.append_assoc, List.append_nil]
  · simp only [hk, decide_false, Int.reduceEq, cond_true, cond_false, Bool.not_false, Bool.not_true, decide_true, if_false, if_true]
    rw [roomI_ok (by simp [be_len]), Option.bind_some, roomI_ok (by simp [be_len]), Option.bind_some, roomI_ok (by simp [be_len]; omega), Option.bind_some]
    simp only [List.append_assoc, List.nil_append]
  · simp only [hk, cond_true, decide_true, if_true]
    rw [roomI_ok (by simp [be_len]), Option.bind_some, roomI_ok (by simp [be_len]), Option.bind_some]
    have hl := hloop ((be (nat64 4) 1 ++ be (nat64 u.2.2.2.1) 1) ++ be (nat64 (u.2.2.2.2.1.length : Int)) 1) (by simp [be_len])
    have hk4 : ((4, u.2.1, (u.2.2.1.1, u.2.2.1.2.1, u.2.2.1.2.2.1, u.2.2.1.2.2.2.1, (u.2.2.1.2.2.2.2.1.1, u.2.2.1.2.2.2.2.1.2.1, ()), ()), u.2.2.2.1, u.2.2.2.2.1, ()) : Up) = u := by rw [← hk]
    refine Eq.trans hl ?_
    unfold encNums
    rw [if_pos (by omega), be1 (n := (u.2.2.2.2.1.length : Int)) (by omega) (by omega)]
    simp only [List.append_assoc, List.singleton_append]

end Go.L

namespace Go.L
open Go Go.Pv
set_option maxRecDepth 100000

def encU (l : List Up) : List Int := l.flatMap bytesU

theorem encU_len : ∀ {l : List Up}, l.all mayU = true → (encU l).length ≤ 500 * l.length
  | [], _ => by simp [encU]
  | u :: l, h => by
    rw [List.all_cons, Bool.and_eq_true] at h
    have h1 := bytesU_len h.1
    have h2 := encU_len h.2
    unfold encU at h2 ⊢
    rw [List.flatMap_cons, List.length_append, List.length_cons]
    omega

theorem encU_take {l : List Up} {i : Nat} (h : i < l.length) : encU (l.take (i + 1)) = encU (l.take i) ++ bytesU l[i] := by
  unfold encU
  rw [List.take_add_one, List.getElem?_eq_getElem h, List.flatMap_append]
  simp

theorem all_take {l : List Up} {n : Nat} (h : l.all mayU = true) : (l.take n).all mayU = true := by
  rw [List.all_eq_true] at h ⊢
  exact fun x hx => h x (List.mem_of_mem_take hx)

theorem contains_ups {l : List Up} (ho : ∀ u ∈ l, okU u) (hn : l.length ≤ 1000000) : slices_ContainsFunc_api_Update_api_Update_d99 l = some ((!l.all mayU, ()), ()) := by
  unfold slices_ContainsFunc_api_Update_api_Update_d99 slices_IndexFunc_api_Update_api_Update_d99
  obtain ⟨i, h1, h2⟩ := idx_any (p := fun v => !mayU v) (f := fun (z : ((List Up) × Int × Int × Unit) × Unit) => slices_IndexFunc_api_Update_api_Update_d99_s0 z.1.1 z.1.2.1 z.1.2.2.1) l
    (fun i h => by
      dsimp only
      unfold slices_IndexFunc_api_Update_api_Update_d99_s0 batch_Encode_1
      have hm := may_ok (ho l[i] (List.getElem_mem h))
      rw [dlt h, cond_true, rdI_get h, Option.bind_some]
      have hm2 : batch_May (l[i].1, l[i].2.1, (l[i].2.2.1.1, l[i].2.2.1.2.1, l[i].2.2.1.2.2.1, l[i].2.2.1.2.2.2.1, (l[i].2.2.1.2.2.2.2.1.1, l[i].2.2.1.2.2.2.2.1.2.1, ()), ()), l[i].2.2.2.1, l[i].2.2.2.2.1, ()) = _ := hm
      rw [hm2]
      simp only [Option.bind_some, wi64 (show i < 1000000000 by omega)])
    (by
      dsimp only
      unfold slices_IndexFunc_api_Update_api_Update_d99_s0
      rw [dge, cond_false])
  rw [h1, Option.bind_some, h2, ← all_any, Bool.not_not]

theorem encode_ok {l : List Up} (ho : ∀ u ∈ l, okU u) (hn : l.length ≤ 1000) :
    batch_Encode l = some (((if 64 < l.length then ([], 2, ()) else if l.all mayU = true then (be (nat64 (l.length : Int)) 1 ++ encU l, 0, ()) else ([], 1, ())) : List Int × Int × Unit), ()) := by
  unfold batch_Encode
  by_cases hl : 64 < l.length
  · rw [if_pos hl, decide_eq_true (by omega), cond_true]
  · rw [if_neg hl, decide_eq_false (by omega), cond_false, contains_ups ho (by omega), Option.bind_some]
    dsimp only
    cases ha : l.all mayU with
    | false => simp
    | true =>
      rw [if_pos rfl, Bool.not_true, cond_false, wire_Byte_is (by simp), Option.bind_some]
      dsimp only
      rw [List.nil_append]
      have key := loop_up (f := fun (z : ((List Int) × (List Up) × Int × Int × Unit) × Unit) => batch_Encode_s1 z.1.1 z.1.2.1 z.1.2.2.1 z.1.2.2.2.1) (fun i => ((be (nat64 (l.length : Int)) 1 ++ encU (l.take i), l, (l.length : Int), (i : Int), ()), ())) l.length (r := ((be (nat64 (l.length : Int)) 1 ++ encU l, 0, ()), ()))
        (fun i hi => by
          dsimp only
          unfold batch_Encode_s1
          have hmem := List.getElem_mem hi
          have hmay : mayU l[i] = true := List.all_eq_true.1 ha _ hmem
          have h1 := encU_len (l := l.take i) (all_take ha)
          have h2 : (l.take i).length ≤ 64 := by rw [List.length_take]; omega
          rw [dlt hi, cond_true, rdI_get hi, Option.bind_some, one_ok (by rw [List.length_append, be_len]; omega) (ho _ hmem) hmay, Option.bind_some, encU_take hi, wi64 (by omega), List.append_assoc])
        (by
          dsimp only
          unfold batch_Encode_s1
          rw [dge, cond_false, List.take_length]) 0 (Nat.zero_le _)
      refine Eq.trans ?_ key
      simp only [List.take_zero]
      rw [show encU [] = [] from rfl, List.append_nil]
      rfl

theorem encode_nil : batch_Encode_f85 [] = some (([0], 0, ()), ()) := by
  unfold batch_Encode_f85
  have h1 : slices_ContainsFunc_api_Update_api_Update_b0c [] = some ((false, ()), ()) := by
    unfold slices_ContainsFunc_api_Update_api_Update_b0c slices_IndexFunc_api_Update_api_Update_b0c
    rw [loopR_out (r := (((-1), ()), ())) rfl]
    rfl
  have h2 : wire_Byte [] (([] : List (Int × Int × (Unit × Unit × Int × Int × (Int × Unit × Unit) × Unit) × Int × Unit × Unit)).length : Int) = some (([0], ()), ()) := by
    rw [wire_Byte_is (by simp), be_one]
    rfl
  rw [h1, h2]
  simp only [Option.bind_some, cond_false]
  exact loopR_out rfl

end Go.L
