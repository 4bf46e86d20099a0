/- The functions that the statements reach as plain Lean, and what they compute. -/
import Derived.Test.YtnaclmcmicckeaaQ9

set_option linter.unusedSimpArgs false
set_option linter.unusedVariables false

namespace Go.L
open Go Go.Pv
set_option maxRecDepth 100000

theorem loop_up {σ ρ : Type} {f : σ → Option (σ ⊕ ρ)} (st : Nat → σ) (n : Nat) {r : ρ} (step : ∀ i, i < n → f (st i) = some (.inl (st (i + 1)))) (stop : f (st n) = some (.inr r)) : ∀ k, k ≤ n → loopR f (st k) = some r := by
 intro k hk
 induction h : n - k generalizing k with
 | zero =>
  have : k = n := by omega
  subst this
  exact loopR_out stop
 | succ m ih => exact loopR_on (step k (by omega)) (ih (k + 1) (by omega) (by omega))

theorem ck_nat {β : Type} {i n : Nat} (h : i < n) (k : Int → Option β) : (Option.map (fun _ => (i : Int)) (ckI (i : Int) n)).bind k = k i := by
 unfold ckI
 rw [if_pos ⟨by omega, by omega⟩]
 rfl

theorem wi64 {i : Nat} (h : i < 1000000000) : IntKind.i64.wrap ((i : Int) + 1) = ((i + 1 : Nat) : Int) := by
 rw [wrap_i64 (by omega) (by omega)]; omega

theorem nbeq {i j : Nat} (h : i ≠ j) : Nat.beq i j = false := by
 cases hb : Nat.beq i j with
 | false => rfl
 | true => exact absurd (Nat.eq_of_beq_eq_true hb) h

def row (f : Nat → Bool) : List Bool := (List.range 128).map f

theorem row_len (f : Nat → Bool) : (row f).length = 128 := by simp [row]

theorem row_get (f : Nat → Bool) {i : Nat} (h : i < 128) : (row f)[i]? = some (f i) := by simp [row, h]

theorem row_ext {f g : Nat → Bool} (h : ∀ i, i < 128 → f i = g i) : row f = row g := by
 unfold row
 exact List.map_congr_left fun i hi => h i (List.mem_range.1 hi)

theorem row_rd (f : Nat → Bool) {i : Nat} (h : i < 128) : rdI (row f) (i : Int) = some (f i) := by
 unfold rdI
 rw [if_pos (by omega)]
 simpa using row_get f h

theorem row_st (f : Nat → Bool) {i : Nat} (h : i < 128) (v : Bool) : stI (row f) (i : Int) v = some (row fun j => bif Nat.beq j i then v else f j) := by
 unfold stI
 rw [if_pos ⟨by omega, by rw [row_len]; simpa using h⟩]
 congr 1
 apply List.ext_getElem?
 intro j
 rw [List.getElem?_set, Int.toNat_natCast]
 by_cases hj : j < 128
 ·rw [row_get _ hj]
  by_cases e : i = j
  ·subst e
   rw [if_pos rfl, if_pos (by rw [row_len]; exact hj), row_get _ hj, Nat.beq_refl]
   rfl
  ·rw [if_neg e, row_get _ hj, nbeq (fun h => e h.symm)]
   rfl
 ·have h1 : ∀ g : Nat → Bool, (row g)[j]? = none := fun g => List.getElem?_eq_none (by rw [row_len]; omega)
  rw [h1, h1, if_neg (by omega)]

theorem row_zero : List.replicate 128 false = row fun _ => false := by decide

def rowB (x : BitVec 128) : List Bool := row x.getLsbD

def bld (f : Nat → Bool) (i : Nat) : List Bool := row fun j => decide (j < i) && f j

theorem bld_st (f : Nat → Bool) {i : Nat} (hi : i < 128) {v : Bool} (hv : v = f i) : stI (bld f i) (i : Int) v = some (bld f (i + 1)) := by
 unfold bld
 rw [row_st _ hi]
 congr 1
 refine row_ext fun j hj => ?_
 by_cases e : j = i
 ·subst e; simp [hv]
 ·rw [nbeq e]
  simp only [cond_false]
  congr 1
  by_cases h : j < i
  ·simp [h]; omega
  ·simp [h]; omega

theorem bld_zero (f : Nat → Bool) : bld f 0 = List.replicate 128 false := by rw [row_zero]; exact row_ext fun i _ => by simp
theorem gsome {α β : Type} (b : Bool) (v d : β) (k : β → Option α) : guardR b (some v) d k = k (bif b then v else d) := rfl
theorem gtrue {α β : Type} (x : Option β) (d : β) (k : β → Option α) : guardR true x d k = x.bind k := by cases x <;> rfl
theorem gfalse {α β : Type} (x : Option β) (d : β) (k : β → Option α) : guardR false x d k = k d := by cases x <;> rfl

theorem dlt {i n : Nat} (h : i < n) : decide ((i : Int) < (n : Int)) = true := decide_eq_true (by omega)
theorem dge (n : Nat) : decide ((n : Int) < (n : Int)) = false := decide_eq_false (by omega)

theorem wi64d {i : Nat} (h : i < 1000000000) : IntKind.i64.wrap ((i : Int) - 1) = (i : Int) - 1 := wrap_i64 (by omega) (by omega)

theorem loop_down {σ ρ : Type} {f : σ → Option (σ ⊕ ρ)} (st : Nat → σ) (I : Nat → Prop) {r : ρ} (step : ∀ i, I (i + 1) → (f (st (i + 1)) = some (.inl (st i)) ∧ I i) ∨ f (st (i + 1)) = some (.inr r)) (stop : I 0 → f (st 0) = some (.inr r)) : ∀ n, I n → loopR f (st n) = some r
 | 0, h => loopR_out (stop h)
 | n + 1, h => by
  rcases step n h with ⟨h1, h2⟩ | h1
  ·exact loopR_on h1 (loop_down st I step stop n h2)
  ·exact loopR_out h1

theorem dpos (i : Nat) : decide ((((i + 1 : Nat) : Int) - 1) ≥ 0) = true := decide_eq_true (by omega)
theorem dneg : decide ((((0 : Nat) : Int) - 1) ≥ 0) = false := decide_eq_false (by omega)
theorem pm (i : Nat) : (((i + 1 : Nat) : Int) - 1) = (i : Int) := by omega

def bitLen (n : Nat) : Nat := if n = 0 then 0 else Nat.log2 n + 1

theorem ref01_Len_ok (x : BitVec 128) : ref01_Len (rowB x) = some (((bitLen x.toNat : Int), ()), ()) := by
 unfold ref01_Len
 have key := loop_down (f := fun (z : (Int × Unit) × ((List Bool) × Unit)) => ref01_Len_s0 z.1.1 z.2.1)
  (fun i => ((((i : Nat) : Int) - 1, ()), rowB x, ())) (fun i => i ≤ 128 ∧ x.toNat < 2 ^ i) (r := (((bitLen x.toNat : Int), ()), ())) ?_ ?_ 128 ⟨by omega, x.isLt⟩
 ·exact key
 ·intro i ⟨hi, hI⟩
  have hi' : i < 128 := by omega
  simp only
  unfold ref01_Len_s0
  rw [dpos, cond_true, pm, ck_nat hi', show rdI (rowB x) (i : Int) = some (x.getLsbD i) from row_rd _ hi', Option.bind_some]
  cases hb : x.getLsbD i with
  | true =>
   right
   rw [cond_true, wi64 (by omega)]
   have h2 : 2 ^ i ≤ x.toNat := Nat.ge_two_pow_of_testBit hb
   have h0 : x.toNat ≠ 0 := by have := Nat.two_pow_pos i; omega
   have : bitLen x.toNat = i + 1 := by
    unfold bitLen
    rw [if_neg h0]
    have := (Nat.log2_eq_iff h0).2 ⟨h2, hI⟩
    omega
   rw [this]
  | false =>
   left
   rw [cond_false, wi64d (by omega)]
   refine ⟨rfl, by omega, ?_⟩
   have h1 : x.toNat.testBit i = false := hb
   rw [Nat.testBit_eq_decide_div_mod_eq] at h1
   have h1 := of_decide_eq_false h1
   rw [Nat.pow_succ] at hI
   have h2 : x.toNat / 2 ^ i < 2 := Nat.div_lt_of_lt_mul (by omega)
   have h3 : x.toNat / 2 ^ i = 0 := by
    generalize x.toNat / 2 ^ i = e at h1 h2
    omega
   exact (Nat.div_eq_zero_iff_lt (Nat.two_pow_pos i)).1 h3
 ·intro ⟨_, hI⟩
  simp only
  unfold ref01_Len_s0
  have : x.toNat = 0 := by simpa using hI
  rw [dneg, cond_false, this]
  rfl

theorem wu64 {n : Nat} (h : n < 18446744073709551616) : IntKind.u64.wrap (n : Int) = n := wrap_u64 (by omega) (by omega)

def wd (hi lo : Nat) : BitVec 128 := BitVec.ofNat 128 (hi * 2 ^ 64 + lo)

theorem wd_bit {hi lo : Nat} (h2 : lo < 2 ^ 64) {i : Nat} (hi' : i < 128) : (wd hi lo).getLsbD i = if i < 64 then lo.testBit i else hi.testBit (i - 64) := by
 simp only [wd, BitVec.getLsbD_ofNat, hi', decide_true, Bool.true_and]
 rw [Nat.mul_comm, Nat.testBit_two_pow_mul_add _ h2]

theorem tmod2 (n i : Nat) : decide ((((n / 2 ^ i : Nat) : Int).tmod 2) = 1) = n.testBit i := by
 rw [Nat.testBit_eq_decide_div_mod_eq]
 generalize n / 2 ^ i = e
 have : (e : Int).tmod 2 = ((e % 2 : Nat) : Int) := by
  rw [Int.tmod_eq_emod_of_nonneg (by omega)]; rfl
 rw [this]
 by_cases h : e % 2 = 1
 ·rw [decide_eq_true h, decide_eq_true (by omega)]
 ·rw [decide_eq_false h, decide_eq_false (by omega)]

theorem tdiv2 {n : Nat} (h : n < 18446744073709551616) (i : Nat) : IntKind.u64.wrap (((n / 2 ^ i : Nat) : Int).tdiv 2) = ((n / 2 ^ (i + 1) : Nat) : Int) := by
 rw [Nat.pow_succ, ← Nat.div_div_eq_div_mul]
 have : n / 2 ^ i ≤ n := Nat.div_le_self _ _
 generalize n / 2 ^ i = e at *
 rw [Int.tdiv_eq_ediv_of_nonneg (by omega)]
 have h2 : ((e : Int) / 2) = ((e / 2 : Nat) : Int) := by omega
 rw [h2, wu64 (by omega)]

theorem ref01_Of_ok {hi lo : Nat} (h1 : hi < 18446744073709551616) (h2 : lo < 18446744073709551616) : ref01_Of (hi : Int) (lo : Int) = some ((rowB (wd hi lo), ()), ()) := by
 unfold ref01_Of
 let g : Nat → List Bool := fun i => row fun j => if j < 64 then decide (j < i) && lo.testBit j else decide (j - 64 < i) && hi.testBit (j - 64)
 have key := loop_up (f := fun (z : (Int × Int × Int × Unit) × ((List Bool) × (List Bool) × Unit)) => ref01_Of_s0 z.1.1 z.1.2.1 z.1.2.2.1 z.2.1 z.2.2.1)
  (fun i => ((((hi / 2 ^ i : Nat) : Int), ((lo / 2 ^ i : Nat) : Int), (i : Int), ()), List.replicate 128 false, g i, ())) 64 (r := ((rowB (wd hi lo), ()), ())) ?_ ?_ 0 (by omega)
 ·have h0 : g 0 = List.replicate 128 false := by rw [row_zero]; exact row_ext fun i _ => by simp
  simp only [h0, Nat.pow_zero, Nat.div_one] at key
  exact key
 ·intro i hi'
  simp only
  unfold ref01_Of_s0
  rw [show decide ((i : Int) < 64) = true from decide_eq_true (by omega), cond_true, ck_nat (show i < 128 by omega)]
  have hw : IntKind.i64.wrap ((i : Int) + 64) = ((i + 64 : Nat) : Int) := by rw [wrap_i64 (by omega) (by omega)]; omega
  simp only [g]
  rw [row_st _ (show i < 128 by omega), Option.bind_some]
  simp only [hw]
  rw [ck_nat (show i + 64 < 128 by omega), row_st _ (show i + 64 < 128 by omega), Option.bind_some, tdiv2 h1, tdiv2 h2, tmod2, tmod2, wi64 (by omega)]
  congr 5
  refine row_ext fun j hj => ?_
  by_cases e : j = i + 64
  ·subst e; simp
  ·rw [nbeq e]
   by_cases e2 : j = i
   ·subst e2; simp; omega
   ·rw [nbeq e2]
    simp only [cond_false]
    by_cases h64 : j < 64
    ·simp only [h64, if_true]
     congr 1
     by_cases hji : j < i
     ·simp [hji]; omega
     ·simp [hji]; omega
    ·simp only [h64, if_false]
     congr 1
     by_cases hji : j - 64 < i
     ·simp [hji]; omega
     ·simp [hji]; omega
 ·simp only
  unfold ref01_Of_s0
  rw [show decide (((64 : Nat) : Int) < 64) = false from decide_eq_false (by omega), cond_false]
  congr 4
  refine row_ext fun j hj => ?_
  rw [wd_bit h2 hj]
  by_cases h : j < 64
  ·simp [h]
  ·simp [h]; omega

theorem ref01_Halves_ok {hi lo : Nat} (h1 : hi < 18446744073709551616) (h2 : lo < 18446744073709551616) : ref01_Halves (rowB (wd hi lo)) = some (((hi : Int), (lo : Int), ()), ()) := by
 unfold ref01_Halves
 have hs : ∀ n i : Nat, n / 2 ^ i = 2 * (n / 2 ^ (i + 1)) + (if n.testBit i then 1 else 0) := by
  intro n i
  rw [Nat.testBit_eq_decide_div_mod_eq, Nat.pow_succ, ← Nat.div_div_eq_div_mul]
  have : n / 2 ^ i % 2 = 0 ∨ n / 2 ^ i % 2 = 1 := by omega
  rcases this with h | h <;> simp [h] <;> omega
 have hle : ∀ n i : Nat, n / 2 ^ i ≤ n := fun n i => Nat.div_le_self _ _
 have key := loop_down (f := fun (z : (Int × Int × Int × Unit) × ((List Bool) × Unit)) => ref01_Halves_s0 z.1.1 z.1.2.1 z.1.2.2.1 z.2.1)
  (fun i => ((((hi / 2 ^ i : Nat) : Int), ((lo / 2 ^ i : Nat) : Int), ((i : Nat) : Int) - 1, ()), rowB (wd hi lo), ())) (fun i => i ≤ 64) (r := (((hi : Int), (lo : Int), ()), ())) ?_ ?_ 64 (by omega)
 ·have e1 : hi / 2 ^ 64 = 0 := Nat.div_eq_of_lt (by omega)
  have e2 : lo / 2 ^ 64 = 0 := Nat.div_eq_of_lt (by omega)
  simp only [e1, e2] at key
  exact key
 ·intro i hi'
  left
  refine ⟨?_, by omega⟩
  simp only
  unfold ref01_Halves_s0
  rw [dpos, cond_true, pm]
  have hw : IntKind.i64.wrap ((i : Int) + 64) = ((i + 64 : Nat) : Int) := by rw [wrap_i64 (by omega) (by omega)]; omega
  have hb1 : rdI (rowB (wd hi lo)) ((i + 64 : Nat) : Int) = some (hi.testBit i) := by
   rw [show rdI (rowB (wd hi lo)) ((i + 64 : Nat) : Int) = some ((wd hi lo).getLsbD (i + 64)) from row_rd _ (by omega), wd_bit h2 (by omega), if_neg (by omega), Nat.add_sub_cancel]
  have hb2 : rdI (rowB (wd hi lo)) (i : Int) = some (lo.testBit i) := by
   rw [show rdI (rowB (wd hi lo)) (i : Int) = some ((wd hi lo).getLsbD i) from row_rd _ (by omega), wd_bit h2 (by omega), if_pos (by omega)]
  have q1 := hs hi i
  have q2 := hs lo i
  have l1 := hle hi i
  have l2 := hle lo i
  have m1 : IntKind.u64.wrap (2 * ((hi / 2 ^ (i + 1) : Nat) : Int)) = ((2 * (hi / 2 ^ (i + 1)) : Nat) : Int) := by
   rw [show (2 * ((hi / 2 ^ (i + 1) : Nat) : Int)) = ((2 * (hi / 2 ^ (i + 1)) : Nat) : Int) by omega, wu64 (by omega)]
  have m2 : IntKind.u64.wrap (2 * ((lo / 2 ^ (i + 1) : Nat) : Int)) = ((2 * (lo / 2 ^ (i + 1)) : Nat) : Int) := by
   rw [show (2 * ((lo / 2 ^ (i + 1) : Nat) : Int)) = ((2 * (lo / 2 ^ (i + 1)) : Nat) : Int) by omega, wu64 (by omega)]
  simp only [hw, m1, m2]
  simp only [ck_nat (show i + 64 < 128 by omega), ck_nat (show i < 128 by omega), hb1, hb2, wi64d (show i < 1000000000 by omega), Option.bind_some]
  generalize hi / 2 ^ i = a at *
  generalize lo / 2 ^ i = b at *
  generalize hi / 2 ^ (i + 1) = c at *
  generalize lo / 2 ^ (i + 1) = d at *
  clear hb1 hb2 hs hle
  generalize hi.testBit i = p at *
  generalize lo.testBit i = q at *
  cases p <;> cases q <;> simp only [cond_true, cond_false, if_true, if_false, Bool.false_eq_true, Nat.add_zero] at q1 q2 ⊢
  ·rw [q1, q2]
  ·rw [show ((2 * d : Nat) : Int) + 1 = ((b : Nat) : Int) by omega, wu64 (by omega), q1]
  ·rw [show ((2 * c : Nat) : Int) + 1 = ((a : Nat) : Int) by omega, wu64 (by omega), q2]
  ·rw [show ((2 * c : Nat) : Int) + 1 = ((a : Nat) : Int) by omega, wu64 (by omega), show ((2 * d : Nat) : Int) + 1 = ((b : Nat) : Int) by omega, wu64 (by omega)]
 ·intro _
  simp only
  unfold ref01_Halves_s0
  rw [dneg, cond_false]
  simp

end Go.L

namespace Go.L
open Go Go.Pv
set_option maxRecDepth 100000

def wp (w : Nat) : Int × Int × Unit := (((w / 18446744073709551616 : Nat) : Int), ((w % 18446744073709551616 : Nat) : Int), ())

theorem wp_inj {a b : Nat} (h : wp a = wp b) : a = b := by
 unfold wp at h
 simp only [Prod.mk.injEq, and_true] at h
 omega

theorem of_wp {w : Nat} (h : w < 340282366920938463463374607431768211456) : ref01_Of (wp w).1 (wp w).2.1 = some ((rowB (BitVec.ofNat 128 w), ()), ()) := by
 unfold wp
 simp only
 rw [ref01_Of_ok (by omega) (by omega)]
 unfold wd
 rw [show (2 : Nat) ^ 64 = 18446744073709551616 from by decide, show w / 18446744073709551616 * 18446744073709551616 + w % 18446744073709551616 = w by omega]

theorem bits_Sub64_eq : bits_Sub64 = sub64F := rfl

theorem word_Sub_ok {a b : Nat} (ha : a < 340282366920938463463374607431768211456) (hb : b < 340282366920938463463374607431768211456) :
  word_Sub (wp a) (wp b) = some ((wp ((a + (340282366920938463463374607431768211456 - b)) % 340282366920938463463374607431768211456), decide (a < b), ()), ()) := by
 unfold word_Sub wp
 simp only [bits_Sub64_eq, sub64F]
 rw [if_pos (by omega), Option.bind_some]
 simp only
 by_cases hlo : ((a % 18446744073709551616 : Nat) : Int) < ((b % 18446744073709551616 : Nat) : Int) + 0
 ·rw [if_pos hlo, if_pos (by omega), Option.bind_some]
  dsimp only
  congr 3
  ·congr 1
   ·omega
   ·congr 1; omega
  ·congr 1
   by_cases h : a < b
   ·rw [decide_eq_true h, decide_eq_true (by split <;> omega)]
   ·rw [decide_eq_false h, decide_eq_false (by split <;> omega)]
 ·rw [if_neg hlo, if_pos (by omega), Option.bind_some]
  dsimp only
  congr 3
  ·congr 1
   ·omega
   ·congr 1; omega
  ·congr 1
   by_cases h : a < b
   ·rw [decide_eq_true h, decide_eq_true (by split <;> omega)]
   ·rw [decide_eq_false h, decide_eq_false (by split <;> omega)]

end Go.L

namespace Go.L
open Go Go.Pv
set_option maxRecDepth 100000

theorem wrapu (n : Int) : IntKind.u64.wrap n = n % 18446744073709551616 := by
 simp only [IntKind.wrap, IntKind.signed, IntKind.bits]
 simp

theorem fdiv_pow (n k : Nat) : ((n : Int).fdiv (2 ^ k)) = ((n / 2 ^ k : Nat) : Int) := by
 rw [Int.fdiv_eq_ediv_of_nonneg _ (Int.le_of_lt (Int.pow_pos (by decide)))]
 simp

theorem shr_ok {n k : Nat} : shrI .u64 (n : Int) (k : Int) = some (((n / 2 ^ min k 64 : Nat) : Int)) := by
 unfold shrI
 rw [if_neg (by omega), Int.toNat_natCast]
 show some ((n : Int).fdiv (2 ^ (min k 64))) = _
 rw [fdiv_pow]

theorem shl_ok {n k : Nat} : shlI .u64 (n : Int) (k : Int) = some (((n * 2 ^ min k 64 % 18446744073709551616 : Nat) : Int)) := by
 unfold shlI
 rw [if_neg (by omega), Int.toNat_natCast]
 show some (IntKind.u64.wrap ((n : Int) * 2 ^ (min k 64))) = _
 rw [wrapu]
 congr 1

theorem bitLen_of {n L : Nat} (h1 : n < 2 ^ L) (h2 : L = 0 ∨ 2 ^ (L - 1) ≤ n) : bitLen n = L := by
 unfold bitLen
 by_cases h : n = 0
 ·subst h
  rcases h2 with rfl | h2
  ·rfl
  ·have := Nat.two_pow_pos (L - 1); omega
 ·rw [if_neg h]
  have hL : L ≠ 0 := by rintro rfl; simp at h1; exact h h1
  have := (Nat.log2_eq_iff (k := L - 1) h).2 ⟨h2.resolve_left hL, by rw [Nat.sub_add_cancel (by omega)]; exact h1⟩
  omega

theorem bitLen_spec (n : Nat) : n < 2 ^ bitLen n ∧ (bitLen n = 0 ∨ 2 ^ (bitLen n - 1) ≤ n) := by
 unfold bitLen
 by_cases h : n = 0
 ·subst h; simp
 ·rw [if_neg h]
  have := (Nat.log2_eq_iff (k := Nat.log2 n) h).1 rfl
  exact ⟨this.2, .inr this.1⟩

theorem bitLen_shift {n k : Nat} (h : 2 ^ k ≤ n) : bitLen n = k + bitLen (n / 2 ^ k) := by
 obtain ⟨h1, h2⟩ := bitLen_spec (n / 2 ^ k)
 have hp := Nat.two_pow_pos k
 have h0 : 1 ≤ n / 2 ^ k := (Nat.le_div_iff_mul_le hp).2 (by omega)
 refine bitLen_of ?_ (.inr ?_)
 ·rw [Nat.pow_add, Nat.mul_comm]
  exact (Nat.div_lt_iff_lt_mul hp).1 h1
 ·rcases h2 with h2 | h2
  ·rw [h2] at h1; omega
  ·have hb : bitLen (n / 2 ^ k) ≠ 0 := fun e => by rw [e] at h1; omega
   rw [show k + bitLen (n / 2 ^ k) - 1 = (bitLen (n / 2 ^ k) - 1) + k by omega, Nat.pow_add]
   exact (Nat.le_div_iff_mul_le hp).1 h2

theorem tab_ok : ∀ n : Nat, n < 256 → rdI [0, 1, 2, 2, 3, 3, 3, 3, 4, 4, 4, 4, 4, 4, 4, 4, 5, 5, 5, 5, 5, 5, 5, 5, 5, 5, 5, 5, 5, 5, 5, 5, 6, 6, 6, 6, 6, 6, 6, 6, 6, 6, 6, 6, 6, 6, 6, 6, 6, 6, 6, 6, 6, 6, 6, 6, 6, 6, 6, 6, 6, 6, 6, 6, 7, 7, 7, 7, 7, 7, 7, 7, 7, 7, 7, 7, 7, 7, 7, 7, 7, 7, 7, 7, 7, 7, 7, 7, 7, 7, 7, 7, 7, 7, 7, 7, 7, 7, 7, 7, 7, 7, 7, 7, 7, 7, 7, 7, 7, 7, 7, 7, 7, 7, 7, 7, 7, 7, 7, 7, 7, 7, 7, 7, 7, 7, 7, 7, 8, 8, 8, 8, 8, 8, 8, 8, 8, 8, 8, 8, 8, 8, 8, 8, 8, 8, 8, 8, 8, 8, 8, 8, 8, 8, 8, 8, 8, 8, 8, 8, 8, 8, 8, 8, 8, 8, 8, 8, 8, 8, 8, 8, 8, 8, 8, 8, 8, 8, 8, 8, 8, 8, 8, 8, 8, 8, 8, 8, 8, 8, 8, 8, 8, 8, 8, 8, 8, 8, 8, 8, 8, 8, 8, 8, 8, 8, 8, 8, 8, 8, 8, 8, 8, 8, 8, 8, 8, 8, 8, 8, 8, 8, 8, 8, 8, 8, 8, 8, 8, 8, 8, 8, 8, 8, 8, 8, 8, 8, 8, 8, 8, 8, 8, 8, 8, 8, 8, 8, 8, 8, 8, 8, 8, 8, 8, 8] (n : Int) = some (bitLen n : Int) := by
 have h : ∀ n : Fin 256, rdI [0, 1, 2, 2, 3, 3, 3, 3, 4, 4, 4, 4, 4, 4, 4, 4, 5, 5, 5, 5, 5, 5, 5, 5, 5, 5, 5, 5, 5, 5, 5, 5, 6, 6, 6, 6, 6, 6, 6, 6, 6, 6, 6, 6, 6, 6, 6, 6, 6, 6, 6, 6, 6, 6, 6, 6, 6, 6, 6, 6, 6, 6, 6, 6, 7, 7, 7, 7, 7, 7, 7, 7, 7, 7, 7, 7, 7, 7, 7, 7, 7, 7, 7, 7, 7, 7, 7, 7, 7, 7, 7, 7, 7, 7, 7, 7, 7, 7, 7, 7, 7, 7, 7, 7, 7, 7, 7, 7, 7, 7, 7, 7, 7, 7, 7, 7, 7, 7, 7, 7, 7, 7, 7, 7, 7, 7, 7, 7, 8, 8, 8, 8, 8, 8, 8, 8, 8, 8, 8, 8, 8, 8, 8, 8, 8, 8, 8, 8, 8, 8, 8, 8, 8, 8, 8, 8, 8, 8, 8, 8, 8, 8, 8, 8, 8, 8, 8, 8, 8, 8, 8, 8, 8, 8, 8, 8, 8, 8, 8, 8, 8, 8, 8, 8, 8, 8, 8, 8, 8, 8, 8, 8, 8, 8, 8, 8, 8, 8, 8, 8, 8, 8, 8, 8, 8, 8, 8, 8, 8, 8, 8, 8, 8, 8, 8, 8, 8, 8, 8, 8, 8, 8, 8, 8, 8, 8, 8, 8, 8, 8, 8, 8, 8, 8, 8, 8, 8, 8, 8, 8, 8, 8, 8, 8, 8, 8, 8, 8, 8, 8, 8, 8, 8, 8, 8, 8] ((n.val : Nat) : Int) = some (bitLen n.val : Int) := by decide +kernel
 exact fun n hn => h ⟨n, hn⟩

theorem tabAt {n : Nat} (hn : n < 256) : rdI [0, 1, 2, 2, 3, 3, 3, 3, 4, 4, 4, 4, 4, 4, 4, 4, 5, 5, 5, 5, 5, 5, 5, 5, 5, 5, 5, 5, 5, 5, 5, 5, 6, 6, 6, 6, 6, 6, 6, 6, 6, 6, 6, 6, 6, 6, 6, 6, 6, 6, 6, 6, 6, 6, 6, 6, 6, 6, 6, 6, 6, 6, 6, 6, 7, 7, 7, 7, 7, 7, 7, 7, 7, 7, 7, 7, 7, 7, 7, 7, 7, 7, 7, 7, 7, 7, 7, 7, 7, 7, 7, 7, 7, 7, 7, 7, 7, 7, 7, 7, 7, 7, 7, 7, 7, 7, 7, 7, 7, 7, 7, 7, 7, 7, 7, 7, 7, 7, 7, 7, 7, 7, 7, 7, 7, 7, 7, 7, 8, 8, 8, 8, 8, 8, 8, 8, 8, 8, 8, 8, 8, 8, 8, 8, 8, 8, 8, 8, 8, 8, 8, 8, 8, 8, 8, 8, 8, 8, 8, 8, 8, 8, 8, 8, 8, 8, 8, 8, 8, 8, 8, 8, 8, 8, 8, 8, 8, 8, 8, 8, 8, 8, 8, 8, 8, 8, 8, 8, 8, 8, 8, 8, 8, 8, 8, 8, 8, 8, 8, 8, 8, 8, 8, 8, 8, 8, 8, 8, 8, 8, 8, 8, 8, 8, 8, 8, 8, 8, 8, 8, 8, 8, 8, 8, 8, 8, 8, 8, 8, 8, 8, 8, 8, 8, 8, 8, 8, 8, 8, 8, 8, 8, 8, 8, 8, 8, 8, 8, 8, 8, 8, 8, 8, 8, 8, 8] (IntKind.u8.wrap (n : Int)) = some (bitLen n : Int) := by
 rw [wrap_u8 (by omega) (by omega), tab_ok n hn]

theorem bitLen_le {n k : Nat} (h : n < 2 ^ k) : bitLen n ≤ k := by
 rcases (bitLen_spec n).2 with h2 | h2
 ·omega
 ·rcases Nat.lt_or_ge k (bitLen n) with h3 | h3
  ·have := Nat.pow_le_pow_right (n := 2) (by omega) (show k ≤ bitLen n - 1 by omega)
   omega
  ·exact h3

theorem wadd {a b : Nat} (h : a + b < 1000000000) : IntKind.i64.wrap ((a : Int) + (b : Int)) = ((a + b : Nat) : Int) := by
 rw [wrap_i64 (by omega) (by omega)]; omega
theorem wself {a : Nat} (h : a < 1000000000) : IntKind.i64.wrap (a : Int) = (a : Int) := wrap_i64 (by omega) (by omega)

theorem bits_Len64_ok {n : Nat} (h : n < 18446744073709551616) : bits_Len64 (n : Int) = some (((bitLen n : Int), ()), ()) := by
 have f32 : (n : Int).fdiv (2 ^ 32) = ((n / 4294967296 : Nat) : Int) := fdiv_pow n 32
 have l8 : ∀ m : Nat, m < 256 → bitLen m ≤ 8 := fun m hm => bitLen_le (by omega)
 have key : ∀ m : Nat, ∀ b : Nat, m < 4294967296 → b ≤ 32 →
   (bif (decide ((m : Int) ≥ 65536)) then
    (bif (decide ((m : Int).fdiv (2 ^ 16) ≥ 256)) then
     (rdI [0, 1, 2, 2, 3, 3, 3, 3, 4, 4, 4, 4, 4, 4, 4, 4, 5, 5, 5, 5, 5, 5, 5, 5, 5, 5, 5, 5, 5, 5, 5, 5, 6, 6, 6, 6, 6, 6, 6, 6, 6, 6, 6, 6, 6, 6, 6, 6, 6, 6, 6, 6, 6, 6, 6, 6, 6, 6, 6, 6, 6, 6, 6, 6, 7, 7, 7, 7, 7, 7, 7, 7, 7, 7, 7, 7, 7, 7, 7, 7, 7, 7, 7, 7, 7, 7, 7, 7, 7, 7, 7, 7, 7, 7, 7, 7, 7, 7, 7, 7, 7, 7, 7, 7, 7, 7, 7, 7, 7, 7, 7, 7, 7, 7, 7, 7, 7, 7, 7, 7, 7, 7, 7, 7, 7, 7, 7, 7, 8, 8, 8, 8, 8, 8, 8, 8, 8, 8, 8, 8, 8, 8, 8, 8, 8, 8, 8, 8, 8, 8, 8, 8, 8, 8, 8, 8, 8, 8, 8, 8, 8, 8, 8, 8, 8, 8, 8, 8, 8, 8, 8, 8, 8, 8, 8, 8, 8, 8, 8, 8, 8, 8, 8, 8, 8, 8, 8, 8, 8, 8, 8, 8, 8, 8, 8, 8, 8, 8, 8, 8, 8, 8, 8, 8, 8, 8, 8, 8, 8, 8, 8, 8, 8, 8, 8, 8, 8, 8, 8, 8, 8, 8, 8, 8, 8, 8, 8, 8, 8, 8, 8, 8, 8, 8, 8, 8, 8, 8, 8, 8, 8, 8, 8, 8, 8, 8, 8, 8, 8, 8, 8, 8, 8, 8, 8, 8] (IntKind.u8.wrap (((m : Int).fdiv (2 ^ 16)).fdiv (2 ^ 8)))).bind fun v => some (((IntKind.i64.wrap ((IntKind.i64.wrap ((IntKind.i64.wrap ((b : Int) + 16)) + 8)) + (IntKind.i64.wrap v))), ()), ())
    else (rdI [0, 1, 2, 2, 3, 3, 3, 3, 4, 4, 4, 4, 4, 4, 4, 4, 5, 5, 5, 5, 5, 5, 5, 5, 5, 5, 5, 5, 5, 5, 5, 5, 6, 6, 6, 6, 6, 6, 6, 6, 6, 6, 6, 6, 6, 6, 6, 6, 6, 6, 6, 6, 6, 6, 6, 6, 6, 6, 6, 6, 6, 6, 6, 6, 7, 7, 7, 7, 7, 7, 7, 7, 7, 7, 7, 7, 7, 7, 7, 7, 7, 7, 7, 7, 7, 7, 7, 7, 7, 7, 7, 7, 7, 7, 7, 7, 7, 7, 7, 7, 7, 7, 7, 7, 7, 7, 7, 7, 7, 7, 7, 7, 7, 7, 7, 7, 7, 7, 7, 7, 7, 7, 7, 7, 7, 7, 7, 7, 8, 8, 8, 8, 8, 8, 8, 8, 8, 8, 8, 8, 8, 8, 8, 8, 8, 8, 8, 8, 8, 8, 8, 8, 8, 8, 8, 8, 8, 8, 8, 8, 8, 8, 8, 8, 8, 8, 8, 8, 8, 8, 8, 8, 8, 8, 8, 8, 8, 8, 8, 8, 8, 8, 8, 8, 8, 8, 8, 8, 8, 8, 8, 8, 8, 8, 8, 8, 8, 8, 8, 8, 8, 8, 8, 8, 8, 8, 8, 8, 8, 8, 8, 8, 8, 8, 8, 8, 8, 8, 8, 8, 8, 8, 8, 8, 8, 8, 8, 8, 8, 8, 8, 8, 8, 8, 8, 8, 8, 8, 8, 8, 8, 8, 8, 8, 8, 8, 8, 8, 8, 8, 8, 8, 8, 8, 8, 8] (IntKind.u8.wrap ((m : Int).fdiv (2 ^ 16)))).bind fun v => some (((IntKind.i64.wrap ((IntKind.i64.wrap ((b : Int) + 16)) + (IntKind.i64.wrap v))), ()), ()))
   else (bif (decide ((m : Int) ≥ 256)) then
     (rdI [0, 1, 2, 2, 3, 3, 3, 3, 4, 4, 4, 4, 4, 4, 4, 4, 5, 5, 5, 5, 5, 5, 5, 5, 5, 5, 5, 5, 5, 5, 5, 5, 6, 6, 6, 6, 6, 6, 6, 6, 6, 6, 6, 6, 6, 6, 6, 6, 6, 6, 6, 6, 6, 6, 6, 6, 6, 6, 6, 6, 6, 6, 6, 6, 7, 7, 7, 7, 7, 7, 7, 7, 7, 7, 7, 7, 7, 7, 7, 7, 7, 7, 7, 7, 7, 7, 7, 7, 7, 7, 7, 7, 7, 7, 7, 7, 7, 7, 7, 7, 7, 7, 7, 7, 7, 7, 7, 7, 7, 7, 7, 7, 7, 7, 7, 7, 7, 7, 7, 7, 7, 7, 7, 7, 7, 7, 7, 7, 8, 8, 8, 8, 8, 8, 8, 8, 8, 8, 8, 8, 8, 8, 8, 8, 8, 8, 8, 8, 8, 8, 8, 8, 8, 8, 8, 8, 8, 8, 8, 8, 8, 8, 8, 8, 8, 8, 8, 8, 8, 8, 8, 8, 8, 8, 8, 8, 8, 8, 8, 8, 8, 8, 8, 8, 8, 8, 8, 8, 8, 8, 8, 8, 8, 8, 8, 8, 8, 8, 8, 8, 8, 8, 8, 8, 8, 8, 8, 8, 8, 8, 8, 8, 8, 8, 8, 8, 8, 8, 8, 8, 8, 8, 8, 8, 8, 8, 8, 8, 8, 8, 8, 8, 8, 8, 8, 8, 8, 8, 8, 8, 8, 8, 8, 8, 8, 8, 8, 8, 8, 8, 8, 8, 8, 8, 8, 8] (IntKind.u8.wrap ((m : Int).fdiv (2 ^ 8)))).bind fun v => some (((IntKind.i64.wrap ((IntKind.i64.wrap ((b : Int) + 8)) + (IntKind.i64.wrap v))), ()), ())
    else (rdI [0, 1, 2, 2, 3, 3, 3, 3, 4, 4, 4, 4, 4, 4, 4, 4, 5, 5, 5, 5, 5, 5, 5, 5, 5, 5, 5, 5, 5, 5, 5, 5, 6, 6, 6, 6, 6, 6, 6, 6, 6, 6, 6, 6, 6, 6, 6, 6, 6, 6, 6, 6, 6, 6, 6, 6, 6, 6, 6, 6, 6, 6, 6, 6, 7, 7, 7, 7, 7, 7, 7, 7, 7, 7, 7, 7, 7, 7, 7, 7, 7, 7, 7, 7, 7, 7, 7, 7, 7, 7, 7, 7, 7, 7, 7, 7, 7, 7, 7, 7, 7, 7, 7, 7, 7, 7, 7, 7, 7, 7, 7, 7, 7, 7, 7, 7, 7, 7, 7, 7, 7, 7, 7, 7, 7, 7, 7, 7, 8, 8, 8, 8, 8, 8, 8, 8, 8, 8, 8, 8, 8, 8, 8, 8, 8, 8, 8, 8, 8, 8, 8, 8, 8, 8, 8, 8, 8, 8, 8, 8, 8, 8, 8, 8, 8, 8, 8, 8, 8, 8, 8, 8, 8, 8, 8, 8, 8, 8, 8, 8, 8, 8, 8, 8, 8, 8, 8, 8, 8, 8, 8, 8, 8, 8, 8, 8, 8, 8, 8, 8, 8, 8, 8, 8, 8, 8, 8, 8, 8, 8, 8, 8, 8, 8, 8, 8, 8, 8, 8, 8, 8, 8, 8, 8, 8, 8, 8, 8, 8, 8, 8, 8, 8, 8, 8, 8, 8, 8, 8, 8, 8, 8, 8, 8, 8, 8, 8, 8, 8, 8, 8, 8, 8, 8, 8, 8] (IntKind.u8.wrap (m : Int))).bind fun v => some (((IntKind.i64.wrap ((b : Int) + (IntKind.i64.wrap v))), ()), ())) : Option ((Int × Unit) × Unit)) = some ((((b + bitLen m : Nat) : Int), ()), ()) := by
  intro m b hm hb
  have g16 : (m : Int).fdiv (2 ^ 16) = ((m / 65536 : Nat) : Int) := fdiv_pow m 16
  have g8 : (m : Int).fdiv (2 ^ 8) = ((m / 256 : Nat) : Int) := fdiv_pow m 8
  have g24 : ((m / 65536 : Nat) : Int).fdiv (2 ^ 8) = ((m / 65536 / 256 : Nat) : Int) := fdiv_pow _ 8
  rw [g16, g8, g24]
  have w16 : IntKind.i64.wrap ((b : Int) + 16) = ((b + 16 : Nat) : Int) := wadd (b := 16) (by omega)
  have w8 : IntKind.i64.wrap ((b : Int) + 8) = ((b + 8 : Nat) : Int) := wadd (b := 8) (by omega)
  have w24 : IntKind.i64.wrap (((b + 16 : Nat) : Int) + 8) = ((b + 16 + 8 : Nat) : Int) := wadd (b := 8) (by omega)
  rw [w16, w8, w24]
  by_cases h16 : 65536 ≤ m
  ·rw [decide_eq_true (show (m : Int) ≥ 65536 by omega), cond_true]
   have s16 := bitLen_shift (n := m) (k := 16) h16
   rw [show (2 : Nat) ^ 16 = 65536 from rfl] at s16
   by_cases h8 : 256 ≤ m / 65536
   ·have s8 := bitLen_shift (n := m / 65536) (k := 8) h8
    rw [show (2 : Nat) ^ 8 = 256 from rfl] at s8
    have := l8 (m / 65536 / 256) (by omega)
    rw [decide_eq_true (show ((m / 65536 : Nat) : Int) ≥ 256 by omega), cond_true, tabAt (by omega), Option.bind_some, wself (by omega), wadd (by omega), s16, s8]
    congr 4
    omega
   ·have := l8 (m / 65536) (by omega)
    rw [decide_eq_false (show ¬ ((m / 65536 : Nat) : Int) ≥ 256 by omega), cond_false, tabAt (by omega), Option.bind_some, wself (by omega), wadd (by omega), s16]
    congr 4
    omega
  ·rw [decide_eq_false (show ¬ (m : Int) ≥ 65536 by omega), cond_false]
   by_cases h8 : 256 ≤ m
   ·have s8 := bitLen_shift (n := m) (k := 8) h8
    rw [show (2 : Nat) ^ 8 = 256 from rfl] at s8
    have := l8 (m / 256) (by omega)
    rw [decide_eq_true (show (m : Int) ≥ 256 by omega), cond_true, tabAt (by omega), Option.bind_some, wself (by omega), wadd (by omega), s8]
    congr 4
    omega
   ·have := l8 m (by omega)
    rw [decide_eq_false (show ¬ (m : Int) ≥ 256 by omega), cond_false, tabAt (by omega), Option.bind_some, wself (by omega), wadd (by omega)]
 unfold bits_Len64
 by_cases hb : 4294967296 ≤ n
 ·rw [decide_eq_true (show (n : Int) ≥ 4294967296 by omega), cond_true, f32]
  have := key (n / 4294967296) 32 (by omega) (by omega)
  have s32 := bitLen_shift (n := n) (k := 32) hb
  rw [show (2 : Nat) ^ 32 = 4294967296 from rfl] at s32
  rw [s32]
  exact this
 ·rw [decide_eq_false (show ¬ (n : Int) ≥ 4294967296 by omega), cond_false]
  have := key n 0 (by omega) (by omega)
  rw [Nat.zero_add] at this
  exact this

end Go.L

namespace Go.L
open Go Go.Pv
set_option maxRecDepth 100000

structure Dig (u c y1 y0 q rh : Nat) : Prop where
 hc : c < 4294967296
 hy1 : 2147483648 ≤ y1
 hy1' : y1 < 4294967296
 hy0 : y0 < 4294967296
 hu : u < y1 * 4294967296 + y0
 hq : q ≤ 4294967297
 hI : q * y1 + rh = u
 hr : rh < 4294967296
 hQ : (u * 4294967296 + c) / (y1 * 4294967296 + y0) ≤ q

theorem or_add {a b s : Nat} (h : a % 2 ^ s = 0) (hb : b < 2 ^ s) (hab : a + b < 18446744073709551616) : bitsI .or .u64 (a : Int) (b : Int) = ((a + b : Nat) : Int) := by
 have key : (BitVec.ofInt 64 (a : Int) ||| BitVec.ofInt 64 (b : Int)).toNat = a + b := by
  rw [BitVec.toNat_or, BitVec.ofInt_natCast, BitVec.ofInt_natCast, BitVec.toNat_ofNat, BitVec.toNat_ofNat, Nat.mod_eq_of_lt (show a < 2 ^ 64 by omega), Nat.mod_eq_of_lt (show b < 2 ^ 64 by omega)]
  have := Nat.shiftLeft_add_eq_or_of_lt hb (a / 2 ^ s)
  rw [Nat.shiftLeft_eq, Nat.div_mul_cancel (Nat.dvd_of_mod_eq_zero h)] at this
  exact this.symm
 show IntKind.u64.wrap (((BitVec.ofInt 64 (a : Int) ||| BitVec.ofInt 64 (b : Int)).toNat : Nat) : Int) = _
 rw [key, wu64 hab]

end Go.L

namespace Go.L
open Go Go.Pv
set_option maxRecDepth 100000

def lrow {α : Type} (n : Nat) (f : Nat → α) : List α := (List.range n).map f

theorem lrow_len {α : Type} (n : Nat) (f : Nat → α) : (lrow n f).length = n := by simp [lrow]

theorem lrow_get {α : Type} {n : Nat} (f : Nat → α) {i : Nat} (h : i < n) : (lrow n f)[i]? = some (f i) := by simp [lrow, h]

theorem lrow_ext {α : Type} {n : Nat} {f g : Nat → α} (h : ∀ i, i < n → f i = g i) : lrow n f = lrow n g := by
 unfold lrow
 exact List.map_congr_left fun i hi => h i (List.mem_range.1 hi)

theorem lrow_rd {α : Type} {n : Nat} (f : Nat → α) {i : Nat} (h : i < n) : rdI (lrow n f) (i : Int) = some (f i) := by
 unfold rdI
 rw [if_pos (by omega)]
 simpa using lrow_get f h

def D (b w : Nat) : List Nat := if h : b < 2 ∨ w / b = 0 then [w % b] else (w % b) :: D b (w / b)
 termination_by w
 decreasing_by
 have hb : 2 ≤ b := by omega
 have hw : w ≠ 0 := fun e => h (.inr (by rw [e]; simp))
 exact Nat.div_lt_self (by omega) (by omega)

theorem D_eq {b w : Nat} (hb : 2 ≤ b) : D b w = (w % b) :: (if w / b = 0 then [] else D b (w / b)) := by
 rw [D]
 by_cases h : w / b = 0
 ·rw [dif_pos (.inr h), if_pos h]
 ·rw [dif_neg (by omega), if_neg h]

def chr (d : Nat) : Int := if d < 10 then 48 + d else 87 + d

def text (b w : Nat) : List Int := ((D b w).map chr).reverse

def Sofar (b w0 w : Nat) (l : List Nat) : Prop := l ++ (if w = 0 ∧ l ≠ [] then [] else D b w) = D b w0

theorem Sofar.step {b w0 w : Nat} {l : List Nat} (hb : 2 ≤ b) (h : Sofar b w0 w l) (hc : ¬ (w = 0 ∧ l ≠ [])) : Sofar b w0 (w / b) (l ++ [w % b]) := by
 unfold Sofar at *
 rw [if_neg hc, D_eq hb] at h
 rw [← h, List.append_assoc]
 congr 1
 by_cases h0 : w / b = 0
 ·rw [if_pos ⟨h0, by simp⟩, if_pos h0]; rfl
 ·rw [if_neg (fun h => h0 h.1), if_neg h0]; rfl

theorem Sofar.len {b w0 w : Nat} {l : List Nat} (h : Sofar b w0 w l) : l.length ≤ (D b w0).length := by
 rw [← h, List.length_append]; omega

end Go.L

namespace Go.L
open Go Go.Pv
set_option maxRecDepth 100000

theorem u64_bv {z : Nat} (hz : z < 18446744073709551616) {b : BitVec 64} (h : ∀ i, i < 64 → b.getLsbD i = z.testBit i) : IntKind.u64.wrap (b.toNat : Int) = (z : Int) := by
 have : b = BitVec.ofNat 64 z := by
  apply BitVec.eq_of_getLsbD_eq
  intro i hi
  rw [h i hi, BitVec.getLsbD_ofNat]
  simp [hi]
 rw [this, BitVec.toNat_ofNat, Nat.mod_eq_of_lt (show z < 2 ^ 64 by omega), wu64 hz]

theorem and64 {x y : Nat} (hx : x < 18446744073709551616) (hy : y < 18446744073709551616) : bitsI .and .u64 (x : Int) (y : Int) = ((x &&& y : Nat) : Int) := by
 change IntKind.u64.wrap ((BitVec.ofInt 64 (x : Int) &&& BitVec.ofInt 64 (y : Int)).toNat : Int) = _
 rw [BitVec.ofInt_natCast, BitVec.ofInt_natCast]
 exact u64_bv (Nat.and_lt_two_pow (n := 64) x hy) fun i hi => by simp only [BitVec.getLsbD_and, BitVec.getLsbD_or, BitVec.getLsbD_xor, BitVec.getLsbD_ofNat, hi, decide_true, Bool.true_and, Nat.testBit_and, Nat.testBit_or, Nat.testBit_xor]

theorem or64 {x y : Nat} (hx : x < 18446744073709551616) (hy : y < 18446744073709551616) : bitsI .or .u64 (x : Int) (y : Int) = ((x ||| y : Nat) : Int) := by
 change IntKind.u64.wrap ((BitVec.ofInt 64 (x : Int) ||| BitVec.ofInt 64 (y : Int)).toNat : Int) = _
 rw [BitVec.ofInt_natCast, BitVec.ofInt_natCast]
 exact u64_bv (Nat.or_lt_two_pow (n := 64) hx hy) fun i hi => by simp only [BitVec.getLsbD_and, BitVec.getLsbD_or, BitVec.getLsbD_xor, BitVec.getLsbD_ofNat, hi, decide_true, Bool.true_and, Nat.testBit_and, Nat.testBit_or, Nat.testBit_xor]

theorem xor64 {x y : Nat} (hx : x < 18446744073709551616) (hy : y < 18446744073709551616) : bitsI .xor .u64 (x : Int) (y : Int) = ((x ^^^ y : Nat) : Int) := by
 change IntKind.u64.wrap ((BitVec.ofInt 64 (x : Int) ^^^ BitVec.ofInt 64 (y : Int)).toNat : Int) = _
 rw [BitVec.ofInt_natCast, BitVec.ofInt_natCast]
 exact u64_bv (Nat.xor_lt_two_pow (n := 64) hx hy) fun i hi => by simp only [BitVec.getLsbD_and, BitVec.getLsbD_or, BitVec.getLsbD_xor, BitVec.getLsbD_ofNat, hi, decide_true, Bool.true_and, Nat.testBit_and, Nat.testBit_or, Nat.testBit_xor]

theorem wp_half (f : Bool → Bool → Bool) (hf : f false false = false) (g : Nat → Nat → Nat) (hg : ∀ x y i, (g x y).testBit i = f (x.testBit i) (y.testBit i)) (a b : Nat) :
  g a b / 18446744073709551616 = g (a / 18446744073709551616) (b / 18446744073709551616) ∧ g a b % 18446744073709551616 = g (a % 18446744073709551616) (b % 18446744073709551616) := by
 constructor
 ·apply Nat.eq_of_testBit_eq
  intro i
  rw [show 18446744073709551616 = 2 ^ 64 from rfl, Nat.testBit_div_two_pow, hg, hg, Nat.testBit_div_two_pow, Nat.testBit_div_two_pow]
 ·apply Nat.eq_of_testBit_eq
  intro i
  rw [show 18446744073709551616 = 2 ^ 64 from rfl, Nat.testBit_mod_two_pow, hg, hg, Nat.testBit_mod_two_pow, Nat.testBit_mod_two_pow]
  by_cases h : i < 64
  ·simp [h]
  ·simp [h, hf]

theorem word_And_ok {a b : Nat} (ha : a < 340282366920938463463374607431768211456) (hb : b < 340282366920938463463374607431768211456) : word_And (wp a) (wp b) = some ((wp (a &&& b), ()), ()) := by
 obtain ⟨h1, h2⟩ := wp_half and rfl (· &&& ·) (fun x y i => Nat.testBit_and x y i) a b
 unfold word_And wp
 dsimp only
 rw [and64 (by omega) (by omega), and64 (by omega) (by omega)]
 rw [h1, h2]

theorem not64 {x : Nat} (hx : x < 18446744073709551616) : bitsI .xor .u64 IntKind.u64.max (x : Int) = ((18446744073709551615 - x : Nat) : Int) := by
 have hm : IntKind.u64.max = ((18446744073709551615 : Nat) : Int) := by decide
 rw [hm, xor64 (by omega) hx]
 congr 1
 apply Nat.eq_of_testBit_eq
 intro i
 rw [Nat.testBit_xor]
 have h := Nat.testBit_two_pow_sub_succ (n := 64) (x := x) (by omega) i
 rw [show 2 ^ 64 - (x + 1) = 18446744073709551615 - x by omega] at h
 rw [h]
 have h2 := Nat.testBit_two_pow_sub_one 64 i
 rw [show 2 ^ 64 - 1 = 18446744073709551615 from rfl] at h2
 rw [h2]
 by_cases hi : i < 64
 ·simp [hi]
 ·simp [hi]
  exact Nat.testBit_lt_two_pow (Nat.lt_of_lt_of_le hx (by rw [show 18446744073709551616 = 2 ^ 64 from rfl]; exact Nat.pow_le_pow_right (by omega) (by omega)))

theorem word_Not_ok {a : Nat} (ha : a < 340282366920938463463374607431768211456) : word_Not (wp a) = some ((wp (340282366920938463463374607431768211455 - a), ()), ()) := by
 unfold word_Not wp
 dsimp only
 rw [not64 (by omega), not64 (by omega)]
 refine congrArg some (Prod.ext (Prod.ext (Prod.ext ?_ (Prod.ext ?_ rfl)) rfl) rfl)
 ·dsimp only; omega
 ·dsimp only; omega

theorem shl64 {n k : Nat} (hk : k ≤ 64) : shlI .u64 (n : Int) (k : Int) = some (((n * 2 ^ k % 18446744073709551616 : Nat) : Int)) := by rw [shl_ok, Nat.min_eq_left hk]
theorem shr64 {n k : Nat} (hk : k ≤ 64) : shrI .u64 (n : Int) (k : Int) = some (((n / 2 ^ k : Nat) : Int)) := by rw [shr_ok, Nat.min_eq_left hk]

theorem pow_split {n : Nat} (h : n ≤ 64) : 2 ^ n * 2 ^ (64 - n) = 18446744073709551616 := by rw [← Nat.pow_add, show n + (64 - n) = 64 by omega]

theorem mod_div_pow (lo n : Nat) (h : n ≤ 64) (hlo : lo < 18446744073709551616) : lo * 2 ^ n / 18446744073709551616 = lo / 2 ^ (64 - n) := by
 rw [← pow_split h, Nat.mul_comm (2 ^ n), Nat.mul_div_mul_right _ _ (Nat.two_pow_pos n)]

theorem shl_g_ok {F G : (Int × Int × Unit) → Int → Option (((Int × Int × Unit) × Unit) × (Unit))} {a n : Nat} (ha : a < 340282366920938463463374607431768211456) : word_Shl_g F G (wp a) (n : Int) = some ((wp (if n < 128 then a * 2 ^ n % 340282366920938463463374607431768211456 else 0), ()), ()) := by
 unfold word_Shl_g
 have hpa : ((wp a).1, (wp a).2.1, ()) = wp a := rfl
 simp only [gsome, decide_eq_false (show ¬ (n : Int) ≤ -128 by omega), Bool.not_false, cond_true, cond_false, decide_eq_false (show ¬ (n : Int) < 0 by omega)]
 by_cases h128 : n < 128
 ·rw [decide_eq_false (show ¬ (n : Int) ≥ 128 by omega), cond_false, if_pos h128]
  by_cases h0 : n = 0
  ·subst h0
   rw [decide_eq_true (show ((0 : Nat) : Int) = 0 from rfl), cond_true, Nat.pow_zero, Nat.mul_one, Nat.mod_eq_of_lt ha]
  ·rw [decide_eq_false (show ¬ (n : Int) = 0 by omega), cond_false]
   by_cases h64 : 64 ≤ n
   ·rw [decide_eq_true (show (n : Int) ≥ 64 by omega), cond_true, show IntKind.i64.wrap ((n : Int) - 64) = ((n - 64 : Nat) : Int) by rw [wrap_i64 (by omega) (by omega)]; omega]
    unfold wp
    dsimp only
    rw [shl64 (by omega), Option.bind_some]
    have e : a * 2 ^ n = a * 2 ^ (n - 64) * 18446744073709551616 := by
     rw [show 18446744073709551616 = 2 ^ 64 from rfl, Nat.mul_assoc, ← Nat.pow_add, Nat.sub_add_cancel h64]
    rw [e]
    have e2 : a % 18446744073709551616 * 2 ^ (n - 64) % 18446744073709551616 = a * 2 ^ (n - 64) % 18446744073709551616 := Nat.mod_mul_mod a (2 ^ (n - 64)) 18446744073709551616
    rw [e2]
    generalize a * 2 ^ (n - 64) = m
    refine congrArg some (Prod.ext (Prod.ext (Prod.ext ?_ (Prod.ext ?_ rfl)) rfl) rfl)
    ·dsimp only; first | done | omega
    ·dsimp only; first | done | omega
   ·rw [decide_eq_false (show ¬ (n : Int) ≥ 64 by omega), cond_false, show IntKind.i64.wrap (64 - (n : Int)) = ((64 - n : Nat) : Int) by rw [wrap_i64 (by omega) (by omega)]; omega]
    unfold wp
    dsimp only
    rw [shl64 (by omega), Option.bind_some, shr64 (by omega), Option.bind_some, shl64 (by omega), Option.bind_some]
    have hlo : a % 18446744073709551616 < 18446744073709551616 := Nat.mod_lt _ (by omega)
    have hs : a * 2 ^ n = a / 18446744073709551616 * 2 ^ n * 18446744073709551616 + a % 18446744073709551616 * 2 ^ n := by
     have : a = a / 18446744073709551616 * 18446744073709551616 + a % 18446744073709551616 := by omega
     rw [show a * 2 ^ n = (a / 18446744073709551616 * 18446744073709551616 + a % 18446744073709551616) * 2 ^ n by rw [← this], Nat.add_mul, Nat.mul_right_comm]
    have hd := mod_div_pow (a % 18446744073709551616) n (by omega) hlo
    have hlt : a % 18446744073709551616 / 2 ^ (64 - n) < 2 ^ n := by
     refine (Nat.div_lt_iff_lt_mul (Nat.two_pow_pos _)).2 ?_
     rw [pow_split (by omega)]; exact hlo
    have hmz : a / 18446744073709551616 * 2 ^ n % 18446744073709551616 % 2 ^ n = 0 := by
     rw [← pow_split (show n ≤ 64 by omega), Nat.mod_mul_right_mod, Nat.mul_mod_left]
    have hle : a / 18446744073709551616 * 2 ^ n % 18446744073709551616 + a % 18446744073709551616 / 2 ^ (64 - n) < 18446744073709551616 := by
     have h1 : a / 18446744073709551616 * 2 ^ n % 18446744073709551616 = 2 ^ n * (a / 18446744073709551616 % 2 ^ (64 - n)) := by
      rw [← pow_split (show n ≤ 64 by omega), Nat.mul_comm (a / (2 ^ n * 2 ^ (64 - n))) (2 ^ n), Nat.mul_mod_mul_left]
     have h2 : a / 18446744073709551616 % 2 ^ (64 - n) + 1 ≤ 2 ^ (64 - n) := Nat.mod_lt _ (Nat.two_pow_pos _)
     have h3 := Nat.mul_le_mul_left (2 ^ n) h2
     rw [pow_split (by omega), Nat.mul_add, Nat.mul_one, ← h1] at h3
     omega
    rw [or_add hmz hlt hle, hs, ← hd]
    generalize a / 18446744073709551616 * 2 ^ n = p at *
    generalize a % 18446744073709551616 * 2 ^ n = q at *
    clear hmz hlt hs hpa
    refine congrArg some (Prod.ext (Prod.ext (Prod.ext ?_ (Prod.ext ?_ rfl)) rfl) rfl)
    ·dsimp only; omega
    ·dsimp only; omega
 ·rw [decide_eq_true (show (n : Int) ≥ 128 by omega), cond_true, if_neg h128]
  rfl

theorem shr_g_ok {F G : (Int × Int × Unit) → Int → Option (((Int × Int × Unit) × Unit) × (Unit))} {a n : Nat} (ha : a < 340282366920938463463374607431768211456) : word_Shr_g F G (wp a) (n : Int) = some ((wp (a / 2 ^ n), ()), ()) := by
 unfold word_Shr_g
 simp only [gsome, decide_eq_false (show ¬ (n : Int) ≤ -128 by omega), Bool.not_false, cond_true, cond_false, decide_eq_false (show ¬ (n : Int) < 0 by omega)]
 by_cases h128 : n < 128
 ·rw [decide_eq_false (show ¬ (n : Int) ≥ 128 by omega), cond_false]
  by_cases h0 : n = 0
  ·subst h0
   rw [decide_eq_true (show ((0 : Nat) : Int) = 0 from rfl), cond_true, Nat.pow_zero, Nat.div_one]
  ·rw [decide_eq_false (show ¬ (n : Int) = 0 by omega), cond_false]
   by_cases h64 : 64 ≤ n
   ·rw [decide_eq_true (show (n : Int) ≥ 64 by omega), cond_true, show IntKind.i64.wrap ((n : Int) - 64) = ((n - 64 : Nat) : Int) by rw [wrap_i64 (by omega) (by omega)]; omega]
    unfold wp
    dsimp only
    rw [shr64 (by omega), Option.bind_some]
    have e : a / 2 ^ n = a / 18446744073709551616 / 2 ^ (n - 64) := by
     rw [show 18446744073709551616 = 2 ^ 64 from rfl, Nat.div_div_eq_div_mul, ← Nat.pow_add, show 64 + (n - 64) = n by omega]
    have hlt : a / 2 ^ n < 18446744073709551616 := by rw [e]; exact Nat.lt_of_le_of_lt (Nat.div_le_self _ _) (by omega)
    rw [← e]
    generalize a / 2 ^ n = m at *
    refine congrArg some (Prod.ext (Prod.ext (Prod.ext ?_ (Prod.ext ?_ rfl)) rfl) rfl)
    ·dsimp only; first | done | omega
    ·dsimp only; first | done | omega
   ·rw [decide_eq_false (show ¬ (n : Int) ≥ 64 by omega), cond_false, show IntKind.i64.wrap (64 - (n : Int)) = ((64 - n : Nat) : Int) by rw [wrap_i64 (by omega) (by omega)]; omega]
    unfold wp
    dsimp only
    rw [shr64 (by omega), Option.bind_some, shr64 (by omega), Option.bind_some, shl64 (by omega), Option.bind_some]
    have hp := Nat.two_pow_pos n
    have hq := Nat.two_pow_pos (64 - n)
    have hsp := pow_split (show n ≤ 64 by omega)
    have hl1 : a % 18446744073709551616 / 2 ^ n < 2 ^ (64 - n) := (Nat.div_lt_iff_lt_mul hp).2 (by rw [Nat.mul_comm, hsp]; exact Nat.mod_lt _ (by omega))
    have hm : a / 18446744073709551616 * 2 ^ (64 - n) % 18446744073709551616 = 2 ^ (64 - n) * (a / 18446744073709551616 % 2 ^ n) := by
     rw [← hsp, Nat.mul_comm (2 ^ n), Nat.mul_comm (a / (2 ^ (64 - n) * 2 ^ n)), Nat.mul_mod_mul_left]
    have hsum : 2 ^ (64 - n) * (a / 18446744073709551616 % 2 ^ n) + a % 18446744073709551616 / 2 ^ n < 18446744073709551616 := by
     have h2 : a / 18446744073709551616 % 2 ^ n + 1 ≤ 2 ^ n := Nat.mod_lt _ hp
     have h3 := Nat.mul_le_mul_left (2 ^ (64 - n)) h2
     rw [Nat.mul_comm (2 ^ (64 - n)) (2 ^ n), hsp, Nat.mul_add, Nat.mul_one] at h3
     omega
    have hor : bitsI .or .u64 ((a % 18446744073709551616 / 2 ^ n : Nat) : Int) ((a / 18446744073709551616 * 2 ^ (64 - n) % 18446744073709551616 : Nat) : Int) = ((2 ^ (64 - n) * (a / 18446744073709551616 % 2 ^ n) + a % 18446744073709551616 / 2 ^ n : Nat) : Int) := by
     rw [hm]
     have := or_add (a := 2 ^ (64 - n) * (a / 18446744073709551616 % 2 ^ n)) (b := a % 18446744073709551616 / 2 ^ n) (s := 64 - n) (Nat.mul_mod_right _ _) hl1 hsum
     rw [← this, or64 (by omega) (by omega), or64 (by omega) (by omega), Nat.or_comm]
    rw [hor]
    have hval : a / 2 ^ n = a / 18446744073709551616 / 2 ^ n * 18446744073709551616 + (2 ^ (64 - n) * (a / 18446744073709551616 % 2 ^ n) + a % 18446744073709551616 / 2 ^ n) := by
     have h1 : a = 18446744073709551616 * (a / 18446744073709551616) + a % 18446744073709551616 := by omega
     have h2 := Nat.div_add_mod (a / 18446744073709551616) (2 ^ n)
     have h3 := Nat.div_add_mod (a % 18446744073709551616) (2 ^ n)
     have hr := Nat.mod_lt (a % 18446744073709551616) hp
     refine ((Nat.div_mod_unique (a := a) (c := a % 18446744073709551616 % 2 ^ n) hp).2 ⟨?_, hr⟩).1
     generalize a / 18446744073709551616 = A at *
     generalize a % 18446744073709551616 = B at *
     rw [Nat.mul_add, Nat.mul_add, ← Nat.mul_assoc (2 ^ n) (2 ^ (64 - n)), hsp, ← Nat.mul_assoc]
     generalize 2 ^ n * (A / 2 ^ n) = p at *
     generalize 2 ^ n * (B / 2 ^ n) = q at *
     omega
    rw [hval]
    generalize 2 ^ (64 - n) * (a / 18446744073709551616 % 2 ^ n) + a % 18446744073709551616 / 2 ^ n = q at *
    generalize a / 18446744073709551616 / 2 ^ n = p at *
    clear hor hm hval hl1 hsp
    refine congrArg some (Prod.ext (Prod.ext (Prod.ext ?_ (Prod.ext ?_ rfl)) rfl) rfl)
    ·dsimp only; omega
    ·dsimp only; omega
 ·rw [decide_eq_true (show (n : Int) ≥ 128 by omega), cond_true, Nat.div_eq_of_lt (Nat.lt_of_lt_of_le ha (by rw [show 340282366920938463463374607431768211456 = 2 ^ 128 from rfl]; exact Nat.pow_le_pow_right (by omega) (by omega)))]
  rfl

def moved (a : Nat) (n : Int) : Nat := if 0 ≤ n then (if n < 128 then a * 2 ^ n.toNat % 340282366920938463463374607431768211456 else 0) else a / 2 ^ (-n).toNat

end Go.L

namespace Go.L
open Go Go.Pv
set_option maxRecDepth 100000

theorem div_big {a n : Nat} (ha : a < 340282366920938463463374607431768211456) (h : 128 ≤ n) : a / 2 ^ n = 0 :=
 Nat.div_eq_of_lt (Nat.lt_of_lt_of_le ha (by rw [show 340282366920938463463374607431768211456 = 2 ^ 128 from rfl]; exact Nat.pow_le_pow_right (by omega) h))

theorem moved_lt {a : Nat} (ha : a < 340282366920938463463374607431768211456) (n : Int) : moved a n < 340282366920938463463374607431768211456 := by
 unfold moved
 split
 ·split
  ·exact Nat.mod_lt _ (by omega)
  ·omega
 ·exact Nat.lt_of_le_of_lt (Nat.div_le_self _ _) ha

theorem shl_g_neg {F G : (Int × Int × Unit) → Int → Option (((Int × Int × Unit) × Unit) × (Unit))} {a : Nat} {n : Int} (ha : a < 340282366920938463463374607431768211456) (hn : n < 0) (hG : ∀ k : Nat, G (wp a) (k : Int) = some ((wp (a / 2 ^ k), ()), ())) : word_Shl_g F G (wp a) n = some ((wp (a / 2 ^ (-n).toNat), ()), ()) := by
 have hpa : ((wp a).1, (wp a).2.1, ()) = wp a := rfl
 unfold word_Shl_g
 simp only [gsome]
 by_cases h : n ≤ -128
 ·rw [decide_eq_true h, cond_true, cond_true, div_big ha (by omega)]
  rfl
 ·rw [decide_eq_false h, Bool.not_false, cond_true, cond_false, decide_eq_false (show ¬ n ≥ 128 by omega), cond_false, decide_eq_true hn, cond_true, hpa, show IntKind.i64.wrap (0 - n) = (((-n).toNat : Nat) : Int) by rw [wrap_i64 (by omega) (by omega)]; omega, hG]
  rfl

theorem shr_g_neg {F G : (Int × Int × Unit) → Int → Option (((Int × Int × Unit) × Unit) × (Unit))} {a : Nat} {n : Int} (hn : n < 0) (hF : ∀ k : Nat, F (wp a) (k : Int) = some ((wp (if k < 128 then a * 2 ^ k % 340282366920938463463374607431768211456 else 0), ()), ())) : word_Shr_g F G (wp a) n = some ((wp (if -n < 128 then a * 2 ^ (-n).toNat % 340282366920938463463374607431768211456 else 0), ()), ()) := by
 have hpa : ((wp a).1, (wp a).2.1, ()) = wp a := rfl
 unfold word_Shr_g
 simp only [gsome]
 by_cases h : n ≤ -128
 ·rw [decide_eq_true h, cond_true, cond_true, if_neg (by omega)]
  rfl
 ·rw [decide_eq_false h, Bool.not_false, cond_true, cond_false, decide_eq_false (show ¬ n ≥ 128 by omega), cond_false, decide_eq_true hn, cond_true, hpa, show IntKind.i64.wrap (0 - n) = (((-n).toNat : Nat) : Int) by rw [wrap_i64 (by omega) (by omega)]; omega, hF, if_pos (show (-n).toNat < 128 by omega), if_pos (show -n < 128 by omega)]
  rfl

theorem word_Shl_ok {a : Nat} {n : Int} (ha : a < 340282366920938463463374607431768211456) : word_Shl (wp a) n = some ((wp (moved a n), ()), ()) := by
 show word_Shl_g (word_Shr_lv 2).1 (word_Shr_g (word_Shr_lv 1).1 (word_Shr_lv 1).2) (wp a) n = _
 unfold moved
 by_cases h : 0 ≤ n
 ·obtain ⟨k, rfl⟩ : ∃ k : Nat, n = k := ⟨n.toNat, by omega⟩
  rw [shl_g_ok ha, if_pos h, Int.toNat_natCast]
  by_cases h2 : k < 128
  ·rw [if_pos h2, if_pos (by omega)]
  ·rw [if_neg h2, if_neg (by omega)]
 ·rw [if_neg h, shl_g_neg ha (by omega) fun k => shr_g_ok ha]

theorem word_Shr_ok {a : Nat} {n : Int} (ha : a < 340282366920938463463374607431768211456) : word_Shr (wp a) n = some ((wp (moved a (-n)), ()), ()) := by
 show word_Shr_g (word_Shl_g (word_Shr_lv 1).1 (word_Shr_lv 1).2) (word_Shr_lv 2).2 (wp a) n = _
 unfold moved
 by_cases h : n < 0
 ·rw [shr_g_neg h fun k => shl_g_ok ha, if_pos (show 0 ≤ -n by omega)]
 ·obtain ⟨k, rfl⟩ : ∃ k : Nat, n = k := ⟨n.toNat, by omega⟩
  rw [shr_g_ok ha]
  by_cases h2 : k = 0
  ·subst h2
   rw [if_pos (by omega), if_pos (by omega), show (-((0 : Nat) : Int)).toNat = 0 by omega, Nat.pow_zero, Nat.mul_one, Nat.div_one, Nat.mod_eq_of_lt ha]
  ·rw [if_neg (by omega), show (-(-(k : Int))).toNat = k by omega]

theorem wp0 : ((0, 0, ()) : Int × Int × Unit) = wp 0 := rfl
theorem wp1 : ((0, 1, ()) : Int × Int × Unit) = wp 1 := rfl

theorem word_Ones_ok {n : Int} : word_Ones n = some ((wp (2 ^ min n.toNat 128 - 1), ()), ()) := by
 unfold word_Ones
 by_cases h : n ≤ 0
 ·rw [decide_eq_true h, cond_true, show n.toNat = 0 by omega]
  rfl
 ·rw [decide_eq_false h, cond_false]
  by_cases h2 : n ≥ 128
  ·rw [decide_eq_true h2, cond_true, wp0, word_Not_ok (by omega), Nat.min_eq_right (by omega)]
   rfl
  ·rw [decide_eq_false h2, cond_false, wp1, word_Shl_ok (by omega)]
   dsimp only [Option.bind_some]
   have hm : moved 1 n = 2 ^ n.toNat := by
    unfold moved
    rw [if_pos (by omega), if_pos (by omega), Nat.one_mul]
    refine Nat.mod_eq_of_lt ?_
    rw [show 340282366920938463463374607431768211456 = 2 ^ 128 from rfl]
    exact Nat.pow_lt_pow_right (by omega) (by omega)
   rw [word_Sub_ok (moved_lt (by omega) n) (by omega), hm, Nat.min_eq_left (by omega)]
   dsimp only [Option.bind_some]
   have hp := Nat.two_pow_pos n.toNat
   have hl : 2 ^ n.toNat < 340282366920938463463374607431768211456 := by
    rw [← hm]; exact moved_lt (by omega) n
   rw [show (2 ^ n.toNat + (340282366920938463463374607431768211456 - 1)) % 340282366920938463463374607431768211456 = 2 ^ n.toNat - 1 by omega]

theorem wp_eqb (a b : Nat) : (decide ((wp a).1 = (wp b).1) && decide ((wp a).2.1 = (wp b).2.1)) = decide (a = b) := by
 rw [← Bool.decide_and]
 refine decide_eq_decide.2 ⟨fun h => wp_inj (Prod.ext h.1 (Prod.ext h.2 rfl)), fun h => by rw [h]; exact ⟨rfl, rfl⟩⟩

def cmp (a b : Nat) : Int := if a = b then 0 else if a < b then -1 else 1

theorem word_Cmp_ok {a b : Nat} (ha : a < 340282366920938463463374607431768211456) (hb : b < 340282366920938463463374607431768211456) : word_Cmp (wp a) (wp b) = some ((cmp a b, ()), ()) := by
 have hpa : ((wp a).1, (wp a).2.1, ()) = wp a := rfl
 have hpb : ((wp b).1, (wp b).2.1, ()) = wp b := rfl
 unfold word_Cmp cmp
 rw [hpa, hpb, word_Sub_ok ha hb, Option.bind_some, wp_eqb]
 dsimp only
 by_cases h : a = b
 ·rw [decide_eq_true h, cond_true, if_pos h]
 ·rw [decide_eq_false h, cond_false, if_neg h]
  by_cases h2 : a < b
  ·rw [decide_eq_true h2, cond_true, if_pos h2]
  ·rw [decide_eq_false h2, cond_false, if_neg h2]

theorem word_Len_ok {a : Nat} (ha : a < 340282366920938463463374607431768211456) : word_Len (wp a) = some (((bitLen a : Int), ()), ()) := by
 unfold word_Len
 by_cases h : 18446744073709551616 ≤ a
 ·rw [decide_eq_true (show (wp a).1 > 0 by show (((a / 18446744073709551616 : Nat)) : Int) > 0; omega), cond_true]
  show (bits_Len64 ((a / 18446744073709551616 : Nat) : Int)).bind _ = _
  rw [bits_Len64_ok (by omega), Option.bind_some]
  dsimp only
  have h1 := bitLen_shift (n := a) (k := 64) (by rw [show 2 ^ 64 = 18446744073709551616 from rfl]; exact h)
  rw [show 2 ^ 64 = 18446744073709551616 from rfl] at h1
  have h2 : bitLen (a / 18446744073709551616) ≤ 64 := bitLen_le (by rw [show 2 ^ 64 = 18446744073709551616 from rfl]; omega)
  rw [h1, show (64 : Int) + (bitLen (a / 18446744073709551616) : Int) = ((64 : Nat) : Int) + (bitLen (a / 18446744073709551616) : Int) from rfl, wadd (by omega)]
 ·rw [decide_eq_false (show ¬ (wp a).1 > 0 by show ¬ (((a / 18446744073709551616 : Nat)) : Int) > 0; omega), cond_false]
  show (bits_Len64 ((a % 18446744073709551616 : Nat) : Int)).bind _ = _
  rw [Nat.mod_eq_of_lt (by omega), bits_Len64_ok (by omega), Option.bind_some]

end Go.L

namespace Go.L
open Go Go.Pv
set_option maxRecDepth 100000

theorem lrow_succ {α : Type} (n : Nat) (f : Nat → α) : lrow (n + 1) f = lrow n f ++ [f n] := by unfold lrow; rw [List.range_succ, List.map_append]; rfl
theorem roomI_ok {α : Type} {xs ys : List α} (h : xs.length + ys.length ≤ 1000000000) : roomI 1 xs ys = some (xs ++ ys) := by
 unfold roomI
 rw [if_pos (by omega)]

theorem row_w (w : Nat) : rowB (BitVec.ofNat 128 w) = row w.testBit := row_ext fun i hi => by rw [BitVec.getLsbD_ofNat, decide_eq_true hi, Bool.true_and]

def vw (w : Int) (x : Nat) : Int × Int × Int × Unit := (w, (wp x).1, (wp x).2.1, ())

def may (w : Int) (x : Nat) : Bool := decide ((1 ≤ w ∧ w ≤ 128) ∧ (bitLen x : Int) ≤ w)

theorem may_of {w : Int} {x : Nat} (h : may w x = true) : 1 ≤ w ∧ w ≤ 128 ∧ (bitLen x : Int) ≤ w := by
 have := of_decide_eq_true h
 omega

theorem vec_May_ok {w : Int} {x : Nat} (hx : x < 340282366920938463463374607431768211456) : vec_May (vw w x) = some ((may w x, ()), ()) := by
 unfold vec_May vec_width may vw
 simp only [gsome, Option.bind_some]
 by_cases h : 1 ≤ w ∧ w ≤ 128
 ·simp only [decide_eq_true (show w ≥ 1 from h.1), decide_eq_true h.2, cond_true, gtrue]
  show ((vec_Word (w, (wp x).1, (wp x).2.1, ())).bind fun r_3 => (word_Len r_3.1.1).bind fun r_4 => some ((decide (r_4.1.1 ≤ w), ()), ())) = _
  unfold vec_Word
  rw [Option.bind_some]
  show ((word_Len (wp x)).bind fun r_4 => some ((decide (r_4.1.1 ≤ w), ()), ())) = _
  rw [word_Len_ok hx, Option.bind_some]
  congr 3
  exact decide_eq_decide.2 ⟨fun h2 => ⟨h, h2⟩, fun h2 => h2.2⟩
 ·have e : (bif decide (w ≥ 1) then (bif decide (w ≥ 1) then decide (w ≤ 128) else false) else false) = false := by
   by_cases h : w ≥ 1
   ·rw [decide_eq_true h, decide_eq_false (by omega)]; rfl
   ·rw [decide_eq_false h]; rfl
  simp only [e, gfalse, cond_false]
  rw [decide_eq_false (fun h2 => h h2.1)]

theorem ref02_May_ok {w : Int} {x : Nat} (hx : x < 340282366920938463463374607431768211456) : ref02_May (vw w x) = some ((may w x, ()), ()) := by
 unfold ref02_May may vw
 simp only [gsome]
 by_cases h : 1 ≤ w ∧ w ≤ 128
 ·simp only [decide_eq_true (show w ≥ 1 from h.1), decide_eq_true h.2, cond_true, gtrue]
  rw [of_wp hx, Option.bind_some]
  dsimp only
  rw [ref01_Len_ok, Option.bind_some, BitVec.toNat_ofNat, Nat.mod_eq_of_lt (show x < 2 ^ 128 from hx)]
  congr 3
  exact decide_eq_decide.2 ⟨fun h2 => ⟨h, h2⟩, fun h2 => h2.2⟩
 ·have hr : may w x = false := decide_eq_false (fun h2 => h h2.1)
  unfold may at hr
  rw [hr]
  by_cases h1 : w ≥ 1
  ·simp only [decide_eq_true h1, cond_true, decide_eq_false (show ¬ w ≤ 128 by omega), gfalse, cond_false]
  ·simp only [decide_eq_false h1, cond_false, gfalse]

theorem ref02_Bits_ok {w : Int} {x : Nat} (hx : x < 340282366920938463463374607431768211456) : ref02_Bits (vw w x) = some ((lrow (min w 128).toNat x.testBit, ()), ()) := by
 unfold ref02_Bits vw
 dsimp only
 rw [of_wp hx, Option.bind_some]
 dsimp only
 rw [row_w]
 refine loop_up (fun i => (((lrow i x.testBit, (i : Int), ()), (w, (wp x).1, (wp x).2.1, ()), row x.testBit, ()) : ((List Bool) × Int × Unit) × ((Int × Int × Int × Unit) × (List Bool) × Unit))) (min w 128).toNat ?_ ?_ 0 (by omega)
 ·intro i hi
  dsimp only
  unfold ref02_Bits_s0
  simp only [gsome]
  rw [decide_eq_true (show (i : Int) < w by omega), decide_eq_true (show (i : Int) < 128 by omega)]
  simp only [cond_true]
  rw [ck_nat (show i < 128 by omega), row_rd _ (show i < 128 by omega), Option.bind_some, roomI_ok (by rw [lrow_len]; simp only [List.length_cons, List.length_nil]; omega), Option.bind_some, ← lrow_succ, wi64 (by omega)]
 ·dsimp only
  unfold ref02_Bits_s0
  simp only [gsome]
  have e : (bif decide ((((min w 128).toNat : Nat) : Int) < w) then (bif decide ((((min w 128).toNat : Nat) : Int) < w) then decide ((((min w 128).toNat : Nat) : Int) < 128) else false) else false) = false := by
   by_cases h : (((min w 128).toNat : Nat) : Int) < w
   ·rw [decide_eq_true h, decide_eq_false (by omega)]; rfl
   ·rw [decide_eq_false h]; rfl
  rw [e]
  rfl

def be (n m : Nat) : List Int := lrow m fun j => ((n / 2 ^ (8 * (m - 1 - j)) % 256 : Nat) : Int)

def high (n m : Nat) : List Bool := lrow m fun j => n.testBit (m - 1 - j)

end Go.L

namespace Go.L
open Go Go.Pv
set_option maxRecDepth 100000

def enc (w : Int) (x : Nat) : List Int := bif may w x then w :: be x ((w.toNat + 7) / 8) else [0]

theorem take_succ_getD {α : Type} {l : List α} {i : Nat} (d : α) (h : i < l.length) : l.take (i + 1) = l.take i ++ [l.getD i d] := by
 rw [List.take_succ_eq_append_getElem h]
 simp [List.getD, List.getElem?_eq_getElem h]

def okV (v : Int × Int × Int × Unit) : Prop := inR .u64 v.2.1 = true ∧ inR .u64 v.2.2.1 = true

theorem okV_vw {v : Int × Int × Int × Unit} (h : okV v) : v.2.1.toNat * 18446744073709551616 + v.2.2.1.toNat < 340282366920938463463374607431768211456 ∧ v = vw v.1 (v.2.1.toNat * 18446744073709551616 + v.2.2.1.toNat) := by
 have h1 := u64_of h.1
 have h2 := u64_of h.2
 refine ⟨by omega, ?_⟩
 unfold vw wp
 refine Prod.ext rfl (Prod.ext ?_ (Prod.ext ?_ rfl))
 ·dsimp only
  omega
 ·dsimp only
  omega

theorem map_take {l : List Int} {i : Nat} (h : i < l.length) : (l.take (i + 1)).map IntKind.u8.wrap = (l.take i).map IntKind.u8.wrap ++ [IntKind.u8.wrap (l.getD i 0)] := by
 rw [take_succ_getD 0 h, List.map_append]
 rfl

end Go.L

namespace Go.L
open Go Go.Pv
set_option maxRecDepth 100000

abbrev V4 := Int × Int × Int × Unit
theorem rdI_get {α : Type} {l : List α} {i : Nat} (h : i < l.length) : rdI l (i : Int) = some l[i] := by
 unfold rdI
 rw [if_pos (by omega), Int.toNat_natCast, List.getElem?_eq_getElem h]

def mayV (v : V4) : Bool := may v.1 (v.2.1.toNat * 18446744073709551616 + v.2.2.1.toNat)

theorem mayV_ok {v : V4} (h : okV v) : vec_May v = some ((mayV v, ()), ()) ∧ ref02_May v = some ((mayV v, ()), ()) := by
 obtain ⟨h1, h2⟩ := okV_vw h
 unfold mayV
 generalize v.2.1.toNat * 18446744073709551616 + v.2.2.1.toNat = x at h1 h2
 constructor
 ·rw [h2]; exact vec_May_ok h1
 ·rw [h2]; exact ref02_May_ok h1

end Go.L

namespace Go.L
open Go Go.Pv
set_option maxRecDepth 100000

abbrev K4 := Int × Int × Int × Unit
abbrev Slot := Bool × (K4 × Int × Unit) × Unit
abbrev Mp := List Slot × Int × Int × Unit

def sZ : Slot := (false, ((0, 0, 0, ()), 0, ()), ())
def sl (l : List Slot) (i : Nat) : Slot := l.getD i sZ
def us (l : List Slot) (i : Nat) : Bool := (sl l i).1
def ky (l : List Slot) (i : Nat) : K4 := (sl l i).2.1.1

def ds (s a b : Nat) : Nat := if a ≤ b then b - a else b + s - a
def nx (s i : Nat) : Nat := if i + 1 = s then 0 else i + 1

theorem ds_lt {s a b : Nat} (ha : a < s) (hb : b < s) : ds s a b < s := by unfold ds; split <;> omega
theorem ds_self (s a : Nat) : ds s a a = 0 := by unfold ds; rw [if_pos (Nat.le_refl _)]; omega
theorem ds_inj {s h x y : Nat} (hh : h < s) (hx : x < s) (hy : y < s) (e : ds s h x = ds s h y) : x = y := by
 unfold ds at e
 split at e <;> split at e <;> omega
theorem nx_lt {s i : Nat} (hi : i < s) : nx s i < s := by unfold nx; split <;> omega
theorem ds_nx {s h i : Nat} (hh : h < s) (hi : i < s) (hd : ds s h i + 1 < s) : ds s h (nx s i) = ds s h i + 1 := by
 unfold ds nx at *
 split at hd <;> split <;> split <;> omega

theorem sl_set {l : List Slot} {i j : Nat} {v : Slot} (hi : i < l.length) : sl (l.set i v) j = if i = j then v else sl l j := by
 unfold sl
 simp only [List.getD_eq_getElem?_getD, List.getElem?_set]
 split
 ·rename_i e; subst e; simp [hi]
 ·rfl

theorem sl_get {l : List Slot} {i : Nat} (h : i < l.length) : sl l i = l[i] := by
 unfold sl
 simp [List.getD_eq_getElem?_getD, List.getElem?_eq_getElem h]

theorem rdI_sl {l : List Slot} {i : Nat} (h : i < l.length) : rdI l (i : Int) = some (sl l i) := by
 unfold rdI
 rw [if_pos (by omega), Int.toNat_natCast, List.getElem?_eq_getElem h, sl_get h]

theorem ckN {α : Type} {l : List α} {i : Nat} (h : i < l.length) : Option.map (fun _ => (i : Int)) (ckI (i : Int) l.length) = some (i : Int) := by
 unfold ckI
 rw [if_pos ⟨by omega, by omega⟩]; rfl

theorem stI_nat {α : Type} {l : List α} {i : Nat} {v : α} (h : i < l.length) : stI l (i : Int) v = some (l.set i v) := by
 unfold stI
 rw [if_pos ⟨by omega, by omega⟩, Int.toNat_natCast]

def hstep (h v : Int) : Int := bitsI .xor .u64 (IntKind.u64.wrap (bitsI .xor .u64 h v * 1099511628211)) ((IntKind.u64.wrap (bitsI .xor .u64 h v * 1099511628211)).fdiv (2 ^ 32))
def hsh (k : K4) : Int := hstep (hstep (hstep 14695981039346656037 (IntKind.u64.wrap k.1)) k.2.1) k.2.2.1
def hm (s : Nat) (k : K4) : Nat := (hsh k).toNat % s

theorem hsh_nn (k : K4) : 0 ≤ hsh k := by
 unfold hsh hstep
 generalize IntKind.u64.wrap (bitsI .xor .u64 _ k.2.2.1 * 1099511628211) = t
 show 0 ≤ IntKind.u64.wrap ((BitVec.ofInt 64 t ^^^ BitVec.ofInt 64 (t.fdiv (2 ^ 32))).toNat : Int)
 rw [wrapu]
 omega

theorem home_ok {l : List Slot} {n m : Int} {k : K4} (h0 : 0 < l.length) (h1 : l.length ≤ 100000) : exact_Map_home_ca4 (l, n, m, ()) k = some ((((hm l.length k : Nat) : Int), ()), (l, n, m, ()), ()) := by
 unfold exact_Map_home_ca4
 have st : ∀ (h v : Int) (w : List Int) (i : Nat), i < 3 → rdI w (i : Int) = some v → (fun (z : (Int × (List Int) × Int × Unit) × (Mp × Unit)) => exact_Map_home_ca4_s0 z.1.1 z.1.2.1 z.1.2.2.1 z.2.1) ((h, w, (i : Int), ()), (l, n, m, ()), ()) = some (.inl ((hstep h v, w, ((i + 1 : Nat) : Int), ()), (l, n, m, ()), ())) := by
  intro h v w i hi hr
  dsimp only
  unfold exact_Map_home_ca4_s0
  rw [decide_eq_true (show (i : Int) < 3 by omega), cond_true, hr, Option.bind_some, wi64 (by omega)]
  rfl
 refine loopR_on (st _ (IntKind.u64.wrap k.1) _ 0 (by omega) rfl) (loopR_on (st _ k.2.1 _ 1 (by omega) rfl) (loopR_on (st _ k.2.2.1 _ 2 (by omega) rfl) (loopR_out ?_)))
 dsimp only
 unfold exact_Map_home_ca4_s0
 have hn := hsh_nn k
 have hx : hstep (hstep (hstep 14695981039346656037 (IntKind.u64.wrap k.1)) k.2.1) k.2.2.1 = hsh k := rfl
 rw [hx, decide_eq_false (by omega), cond_false]
 have hw : IntKind.u64.wrap (l.length : Int) = (l.length : Int) := wu64 (by omega)
 have hr : remI (hsh k) (l.length : Int) = some ((hm l.length k : Nat) : Int) := by
  unfold remI hm
  rw [if_neg (by omega)]
  obtain ⟨q, hq⟩ : ∃ q : Nat, hsh k = (q : Int) := ⟨(hsh k).toNat, by omega⟩
  rw [hq, Int.toNat_natCast, (Int.ofNat_tmod q l.length).symm]
 have hlt : hm l.length k < l.length := Nat.mod_lt _ h0
 rw [hw, hr, Option.bind_some, wrap_i64 (by omega) (by omega)]
 rfl

theorem next_ok {l : List Slot} {n m : Int} {i : Nat} (hi : i < l.length) (h1 : l.length ≤ 100000) : exact_Map_next_deb (l, n, m, ()) (i : Int) = some ((((nx l.length i : Nat) : Int), ()), (l, n, m, ()), ()) := by
 unfold exact_Map_next_deb
 rw [wi64 (by omega)]
 have hr : remI ((i + 1 : Nat) : Int) (l.length : Int) = some ((nx l.length i : Nat) : Int) := by
  unfold remI nx
  rw [if_neg (by omega)]
  congr 1
  have := (Int.ofNat_tmod (i + 1) l.length).symm
  refine Eq.trans this ?_
  congr 1
  split
  ·rename_i e; rw [e, Nat.mod_self]
  ·exact Nat.mod_eq_of_lt (by omega)
 rw [hr]
 rfl

theorem keq (v w : K4) : (decide (v.1 = w.1) && (decide (v.2.1 = w.2.1) && decide (v.2.2.1 = w.2.2.1))) = decide (v = w) := by
 obtain ⟨a, b, c, _⟩ := v
 obtain ⟨a', b', c', _⟩ := w
 simp only [Prod.mk.injEq, Bool.decide_and, and_true]

theorem find_walk {l : List Slot} {n m : Int} {k : K4} (h1 : l.length ≤ 100000) {e : Nat} (he : e < l.length) (hu : us l e = false) :
  ∃ (j : Nat) (b : Bool), exact_Map_find_ca4 (l, n, m, ()) k = some (((j : Int), b, ()), (l, n, m, ()), ()) ∧ j < l.length ∧ (b = true → us l j = true ∧ ky l j = k) ∧
   (b = false → us l j = false ∧ ∀ x, x < l.length → ds l.length (hm l.length k) x < ds l.length (hm l.length k) j → us l x = true ∧ ky l x ≠ k) := by
 have h0 : 0 < l.length := by omega
 have hh : hm l.length k < l.length := Nat.mod_lt _ h0
 unfold exact_Map_find_ca4
 have hk : (k.1, k.2.1, k.2.2.1, ()) = k := rfl
 dsimp only
 rw [hk, home_ok h0 h1, Option.bind_some]
 dsimp only
 generalize hs : hm l.length k = h at *
 have main : ∀ r i : Nat, i < l.length → ds l.length h i ≤ ds l.length h e → ds l.length h e - ds l.length h i = r → (∀ x, x < l.length → ds l.length h x < ds l.length h i → us l x = true ∧ ky l x ≠ k) →
   ∃ (j : Nat) (b : Bool), loopR (fun (z : (Int × Unit) × (K4 × Mp × Unit)) => exact_Map_find_ca4_s0 z.1.1 z.2.1 z.2.2.1) (((i : Int), ()), k, (l, n, m, ()), ()) = some (((j : Int), b, ()), (l, n, m, ()), ()) ∧ j < l.length ∧ (b = true → us l j = true ∧ ky l j = k) ∧
    (b = false → us l j = false ∧ ∀ x, x < l.length → ds l.length h x < ds l.length h j → us l x = true ∧ ky l x ≠ k) := by
  intro r
  induction r with
  | zero =>
   intro i hi hd hr hp
   have hie : i = e := ds_inj hh hi he (by omega)
   subst hie
   refine ⟨i, false, loopR_out ?_, hi, by simp, fun _ => ⟨hu, hp⟩⟩
   dsimp only
   unfold exact_Map_find_ca4_s0
   dsimp only
   have hu : (sl l i).1 = false := hu
   rw [ckN hi, Option.bind_some, rdI_sl hi, Option.map_some, Option.bind_some, hu, cond_false]
  | succ r ih =>
   intro i hi hd hr hp
   cases hui : us l i with
   | false =>
    refine ⟨i, false, loopR_out ?_, hi, by simp, fun _ => ⟨hui, hp⟩⟩
    dsimp only
    unfold exact_Map_find_ca4_s0
    dsimp only
    have hu : (sl l i).1 = false := hui
    rw [ckN hi, Option.bind_some, rdI_sl hi, Option.map_some, Option.bind_some, hu, cond_false]
   | true =>
    have hu' : (sl l i).1 = true := hui
    by_cases hki : ky l i = k
    ·refine ⟨i, true, loopR_out ?_, hi, fun _ => ⟨hui, hki⟩, by simp⟩
     dsimp only
     unfold exact_Map_find_ca4_s0
     dsimp only
     rw [ckN hi, Option.bind_some, rdI_sl hi, Option.map_some, Option.bind_some, hu', cond_true]
     simp only [Option.bind_some, Option.map_some, rdI_sl hi]
     have hki : (sl l i).2.1.1 = k := hki
     rw [hki, keq, decide_eq_true rfl, cond_true]
    ·have hlt := ds_lt hh he
     have hn := ds_nx hh hi (by omega)
     obtain ⟨j, b, e1, e2⟩ := ih (nx l.length i) (nx_lt hi) (by omega) (by omega) (fun x hx hdx => by
      rw [hn] at hdx
      by_cases hxe : ds l.length h x = ds l.length h i
      ·have := ds_inj hh hx hi hxe
       subst this
       exact ⟨hui, hki⟩
      ·exact hp x hx (by omega))
     refine ⟨j, b, loopR_on ?_ e1, e2⟩
     dsimp only
     unfold exact_Map_find_ca4_s0
     dsimp only
     rw [ckN hi, Option.bind_some, rdI_sl hi, Option.map_some, Option.bind_some, hu', cond_true]
     simp only [Option.bind_some, Option.map_some, rdI_sl hi]
     have hki : ¬ (sl l i).2.1.1 = k := hki
     rw [keq, decide_eq_false hki, cond_false, next_ok hi h1]
     rfl
 exact main _ h hh (by rw [ds_self]; omega) rfl (fun x hx hd => by rw [ds_self] at hd; omega)

end Go.L

namespace Go.L
open Go Go.Pv
set_option maxRecDepth 100000

structure Ivt (most n : Nat) (l : List Slot) : Prop where
 m1 : 1 ≤ most
 big : 2 * most ≤ l.length
 sm : l.length ≤ 1024
 cnt : l.countP (·.1) = n
 nm : n ≤ most
 emp : ∀ i, i < l.length → us l i = false → sl l i = sZ
 dis : ∀ i j, i < l.length → j < l.length → us l i = true → us l j = true → ky l i = ky l j → i = j
 rch : ∀ k, k < l.length → us l k = true → ∀ x, x < l.length → ds l.length (hm l.length (ky l k)) x < ds l.length (hm l.length (ky l k)) k → us l x = true

theorem free_of {l : List Slot} {n : Nat} (hc : l.countP (·.1) = n) (hn : n < l.length) : ∃ e, e < l.length ∧ us l e = false := by
 apply Classical.byContradiction
 intro h
 have : l.countP (·.1) = l.length := by
  rw [List.countP_eq_length]
  intro a ha
  obtain ⟨i, hi, rfl⟩ := List.getElem_of_mem ha
  cases hu : l[i].1 with
  | true => rfl
  | false => exact absurd ⟨i, hi, by unfold us; rw [sl_get hi]; exact hu⟩ h
 omega

theorem Ivt.free {most n : Nat} {l : List Slot} (h : Ivt most n l) : ∃ e, e < l.length ∧ us l e = false := by
 have := h.m1; have := h.big; have := h.nm
 exact free_of h.cnt (by omega)

def has (l : List Slot) (k : K4) (v : Int) : Prop := ∃ i, i < l.length ∧ sl l i = (true, (k, v, ()), ())

theorem slot_eta {x : Slot} (h : x.1 = true) : x = (true, (x.2.1.1, x.2.1.2.1, ()), ()) := by
 obtain ⟨a, ⟨b, c, _⟩, _⟩ := x
 have h : a = true := h
 rw [h]

theorem has_one {l : List Slot} {most n : Nat} (h : Ivt most n l) {k : K4} {v v' : Int} (h1 : has l k v) (h2 : has l k v') : v = v' := by
 obtain ⟨i, hi, ei⟩ := h1
 obtain ⟨j, hj, ej⟩ := h2
 have := h.dis i j hi hj (by unfold us; rw [ei]) (by unfold us; rw [ej]) (by unfold ky; rw [ei, ej])
 subst this
 rw [ei] at ej
 simp only [Prod.mk.injEq] at ej
 exact ej.2.1.2.1

theorem find_ok {l : List Slot} {most n : Nat} (h : Ivt most n l) (N M : Int) (k : K4) : ∃ j, j < l.length ∧
    ((∃ v, exact_Map_find_ca4 (l, N, M, ()) k = some (((j : Int), true, ()), (l, N, M, ()), ()) ∧ sl l j = (true, (k, v, ()), ())) ∨
     (exact_Map_find_ca4 (l, N, M, ()) k = some (((j : Int), false, ()), (l, N, M, ()), ()) ∧ us l j = false ∧ (∀ v, ¬ has l k v) ∧ ∀ x, x < l.length → ds l.length (hm l.length k) x < ds l.length (hm l.length k) j → us l x = true)) := by
  obtain ⟨e, he, hue⟩ := h.free
  have := h.sm
  obtain ⟨j, b, h1, hj, ht, hf⟩ := find_walk (n := N) (m := M) (k := k) (by omega) he hue
  refine ⟨j, hj, ?_⟩
  cases b with
  | true =>
    obtain ⟨hu, hk⟩ := ht rfl
    refine .inl ⟨(sl l j).2.1.2.1, h1, ?_⟩
    have := slot_eta hu
    have hk : (sl l j).2.1.1 = k := hk
    rw [hk] at this
    exact this
  | false =>
    obtain ⟨hu, hp⟩ := hf rfl
    refine .inr ⟨h1, hu, ?_, fun x hx hd => (hp x hx hd).1⟩
    rintro v ⟨i, hi, ei⟩
    have hui : us l i = true := by unfold us; rw [ei]
    have hki : ky l i = k := by unfold ky; rw [ei]
    have hh : hm l.length k < l.length := Nat.mod_lt _ (by omega)
    rcases Nat.lt_trichotomy (ds l.length (hm l.length k) i) (ds l.length (hm l.length k) j) with hd | hd | hd
    · exact (hp i hi hd).2 hki
    · have := ds_inj hh hi hj hd
      subst this
      rw [hu] at hui; cases hui
    · have := h.rch i hi hui j hj (by rw [hki]; exact hd)
      rw [hu] at this; cases this

theorem may_map {l : List Slot} {N M : Int} {k : K4} (hk : okV k) : exact_Map_may_ca4 (l, N, M, ()) k = some ((mayV k, ()), (l, N, M, ()), ()) := by
 unfold exact_Map_may_ca4
 have he : (k.1, k.2.1, k.2.2.1, ()) = k := rfl
 rw [he, (mayV_ok hk).1]; rfl

theorem us_set {l : List Slot} {i j : Nat} {v : Slot} (hi : i < l.length) : us (l.set i v) j = if i = j then v.1 else us l j := by
 unfold us
 rw [sl_set hi]
 split <;> rfl

theorem ky_set {l : List Slot} {i j : Nat} {v : Slot} (hi : i < l.length) : ky (l.set i v) j = if i = j then v.2.1.1 else ky l j := by
 unfold ky
 rw [sl_set hi]
 split <;> rfl

theorem cnt_set {l : List Slot} {i : Nat} {v : Slot} (hi : i < l.length) : (l.set i v).countP (·.1) + (if us l i = true then 1 else 0) = l.countP (·.1) + (if v.1 = true then 1 else 0) := by
 have := List.countP_set (p := fun x : Slot => x.1) (l := l) (i := i) (a := v) hi
 have hu : us l i = l[i].1 := by unfold us; rw [sl_get hi]
 rw [hu, this]
 have hle : (if l[i].1 = true then 1 else 0) ≤ l.countP (fun x : Slot => x.1) := by
  split
  ·rename_i h
   exact List.countP_pos_iff.2 ⟨l[i], List.getElem_mem hi, h⟩
  ·omega
 omega

theorem put_in {l : List Slot} {most n : Nat} (h : Ivt most n l) {k : K4} {v : Int} {j : Nat} (hj : j < l.length) (hn : n < most) (hu : us l j = false) (ha : ∀ v, ¬ has l k v) (hp : ∀ x, x < l.length → ds l.length (hm l.length k) x < ds l.length (hm l.length k) j → us l x = true) :
  Ivt most (n + 1) (l.set j (true, (k, v, ()), ())) ∧ ∀ k' v', has (l.set j (true, (k, v, ()), ())) k' v' ↔ has l k' v' ∨ (k' = k ∧ v' = v) := by
 have hlen : (l.set j (true, (k, v, ()), ())).length = l.length := List.length_set
 have hold : ∀ i, us l i = true → j ≠ i := fun i hi e => by rw [← e, hu] at hi; cases hi
 have hnk : ∀ i, i < l.length → us l i = true → ky l i ≠ k := by
  intro i hi hui hki
  refine ha (sl l i).2.1.2.1 ⟨i, hi, ?_⟩
  have := slot_eta hui
  have hki : (sl l i).2.1.1 = k := hki
  rw [hki] at this
  exact this
 constructor
 ·refine ⟨h.m1, by rw [hlen]; exact h.big, by rw [hlen]; exact h.sm, ?_, by omega, ?_, ?_, ?_⟩
  ·have := cnt_set (v := ((true, (k, v, ()), ()) : Slot)) hj
   rw [hu, h.cnt] at this
   simpa using this
  ·intro i hi hui
   rw [hlen] at hi
   rw [us_set hj] at hui
   rw [sl_set hj]
   split at hui
   ·cases hui
   ·rename_i hne; rw [if_neg hne]; exact h.emp i hi hui
  ·intro a b ha hb hua hub hk
   rw [hlen] at ha hb
   rw [us_set hj] at hua hub
   rw [ky_set hj, ky_set hj] at hk
   by_cases ea : j = a
   ·by_cases eb : j = b
    ·rw [← ea, ← eb]
    ·rw [if_neg eb] at hub hk
     rw [if_pos ea] at hk
     exact absurd hk.symm (hnk b hb hub)
   ·by_cases eb : j = b
    ·rw [if_neg ea] at hua hk
     rw [if_pos eb] at hk
     exact absurd hk (hnk a ha hua)
    ·rw [if_neg ea] at hua hk
     rw [if_neg eb] at hub hk
     exact h.dis a b ha hb hua hub hk
  ·intro a ha hua x hx hd
   rw [hlen] at ha hx hd
   rw [us_set hj] at hua ⊢
   rw [ky_set hj] at hd
   split
   ·rfl
   ·by_cases ea : j = a
    ·rw [if_pos ea] at hd
     rw [← ea] at hd
     exact hp x hx hd
    ·rw [if_neg ea] at hua hd
     exact h.rch a ha hua x hx hd
 ·intro k' v'
  constructor
  ·rintro ⟨i, hi, e⟩
   rw [hlen] at hi
   rw [sl_set hj] at e
   split at e
   ·simp only [Prod.mk.injEq, and_true, true_and] at e
    exact .inr ⟨e.1.symm, e.2.symm⟩
   ·exact .inl ⟨i, hi, e⟩
  ·rintro (⟨i, hi, e⟩ | ⟨rfl, rfl⟩)
   ·refine ⟨i, by rw [hlen]; exact hi, ?_⟩
    rw [sl_set hj, if_neg (hold i (by unfold us; rw [e])), e]
   ·exact ⟨j, by rw [hlen]; exact hj, by rw [sl_set hj, if_pos rfl]⟩

theorem set_in {l : List Slot} {most n : Nat} (h : Ivt most n l) {k : K4} {v w : Int} {j : Nat} (hj : j < l.length) (hs : sl l j = (true, (k, w, ()), ())) :
  Ivt most n (l.set j (true, (k, v, ()), ())) ∧ ∀ k' v', has (l.set j (true, (k, v, ()), ())) k' v' ↔ (k' ≠ k ∧ has l k' v') ∨ (k' = k ∧ v' = v) := by
 have hlen : (l.set j (true, (k, v, ()), ())).length = l.length := List.length_set
 have huj : us l j = true := by unfold us; rw [hs]
 have hkj : ky l j = k := by unfold ky; rw [hs]
 have hus : ∀ i, us (l.set j (true, (k, v, ()), ())) i = us l i := by
  intro i
  rw [us_set hj]
  split
  ·rename_i e; rw [← e, huj]
  ·rfl
 have hky : ∀ i, ky (l.set j (true, (k, v, ()), ())) i = ky l i := by
  intro i
  rw [ky_set hj]
  split
  ·rename_i e; rw [← e, hkj]
  ·rfl
 constructor
 ·refine ⟨h.m1, by rw [hlen]; exact h.big, by rw [hlen]; exact h.sm, ?_, h.nm, ?_, ?_, ?_⟩
  ·have := cnt_set (v := ((true, (k, v, ()), ()) : Slot)) hj
   rw [huj, h.cnt] at this
   simpa using this
  ·intro i hi hui
   rw [hlen] at hi
   rw [hus] at hui
   rw [sl_set hj]
   split
   ·rename_i e; rw [← e, huj] at hui; cases hui
   ·exact h.emp i hi hui
  ·intro a b ha hb hua hub hk
   rw [hlen] at ha hb
   rw [hus] at hua hub
   rw [hky, hky] at hk
   exact h.dis a b ha hb hua hub hk
  ·intro a ha hua x hx hd
   rw [hlen] at ha hx hd
   rw [hus] at hua ⊢
   rw [hky] at hd
   exact h.rch a ha hua x hx hd
 ·intro k' v'
  constructor
  ·rintro ⟨i, hi, e⟩
   rw [hlen] at hi
   rw [sl_set hj] at e
   split at e
   ·simp only [Prod.mk.injEq, and_true, true_and] at e
    exact .inr ⟨e.1.symm, e.2.symm⟩
   ·rename_i hne
    refine .inl ⟨fun ek => hne ?_, ⟨i, hi, e⟩⟩
    exact h.dis j i hj hi huj (by unfold us; rw [e]) (by rw [hkj]; unfold ky; rw [e]; exact ek.symm)
  ·rintro (⟨hne, i, hi, e⟩ | ⟨rfl, rfl⟩)
   ·refine ⟨i, by rw [hlen]; exact hi, ?_⟩
    rw [sl_set hj, if_neg, e]
    intro ej
    subst ej
    rw [hs] at e
    simp only [Prod.mk.injEq, and_true, true_and] at e
    exact hne e.1.symm
   ·exact ⟨j, by rw [hlen]; exact hj, by rw [sl_set hj, if_pos rfl]⟩

theorem put_ok {l : List Slot} {most n : Nat} (h : Ivt most n l) {k : K4} {v : Int} (hk : okV k) :
  (mayV k = false ∧ exact_Map_Put_767 (l, (n : Int), (most : Int), ()) k v = some ((1, ()), (l, (n : Int), (most : Int), ()), ())) ∨
  (mayV k = true ∧ (∃ w, has l k w) ∧ exact_Map_Put_767 (l, (n : Int), (most : Int), ()) k v = some ((6, ()), (l, (n : Int), (most : Int), ()), ())) ∨
  (mayV k = true ∧ (∀ w, ¬ has l k w) ∧ n = most ∧ exact_Map_Put_767 (l, (n : Int), (most : Int), ()) k v = some ((8, ()), (l, (n : Int), (most : Int), ()), ())) ∨
  (mayV k = true ∧ (∀ w, ¬ has l k w) ∧ n < most ∧ ∃ l', exact_Map_Put_767 (l, (n : Int), (most : Int), ()) k v = some ((0, ()), (l', ((n + 1 : Nat) : Int), (most : Int), ()), ()) ∧ Ivt most (n + 1) l' ∧ ∀ k' v', has l' k' v' ↔ has l k' v' ∨ (k' = k ∧ v' = v)) := by
 have hke : (k.1, k.2.1, k.2.2.1, ()) = k := rfl
 unfold exact_Map_Put_767
 dsimp only
 rw [hke, may_map hk, Option.bind_some]
 dsimp only
 cases hm : mayV k with
 | false => exact .inl ⟨rfl, rfl⟩
 | true =>
  right
  simp only [Bool.not_true, cond_false]
  obtain ⟨j, hj, ⟨w, e, hs⟩ | ⟨e, hu, ha, hp⟩⟩ := find_ok h (n : Int) (most : Int) k
  ·left
   refine ⟨trivial, ⟨w, j, hj, hs⟩, ?_⟩
   rw [e]; rfl
  ·right
   rw [e, Option.bind_some]
   dsimp only
   simp only [cond_false]
   have := h.nm
   have := h.sm
   have := h.big
   by_cases hn : n = most
   ·left
    refine ⟨trivial, ha, hn, ?_⟩
    rw [decide_eq_true (by omega), cond_true]
   ·right
    obtain ⟨h1, h2⟩ := put_in (v := v) h hj (by omega) hu ha hp
    refine ⟨trivial, ha, by omega, _, ?_, h1, h2⟩
    rw [decide_eq_false (by omega), cond_false, ckN hj, Option.bind_some, stI_nat hj, Option.map_some, Option.bind_some]
    dsimp only
    rw [wi64 (by omega)]

theorem set_ok {l : List Slot} {most n : Nat} (h : Ivt most n l) {k : K4} {v : Int} (hk : okV k) :
  (mayV k = false ∧ exact_Map_Set_767 (l, (n : Int), (most : Int), ()) k v = some ((1, ()), (l, (n : Int), (most : Int), ()), ())) ∨
  (mayV k = true ∧ (∀ w, ¬ has l k w) ∧ exact_Map_Set_767 (l, (n : Int), (most : Int), ()) k v = some ((5, ()), (l, (n : Int), (most : Int), ()), ())) ∨
  (mayV k = true ∧ (∃ w, has l k w) ∧ ∃ l', exact_Map_Set_767 (l, (n : Int), (most : Int), ()) k v = some ((0, ()), (l', (n : Int), (most : Int), ()), ()) ∧ Ivt most n l' ∧ ∀ k' v', has l' k' v' ↔ (k' ≠ k ∧ has l k' v') ∨ (k' = k ∧ v' = v)) := by
 have hke : (k.1, k.2.1, k.2.2.1, ()) = k := rfl
 unfold exact_Map_Set_767
 dsimp only
 rw [hke, may_map hk, Option.bind_some]
 dsimp only
 cases hm : mayV k with
 | false => exact .inl ⟨rfl, rfl⟩
 | true =>
  right
  simp only [Bool.not_true, cond_false]
  obtain ⟨j, hj, ⟨w, e, hs⟩ | ⟨e, hu, ha, hp⟩⟩ := find_ok h (n : Int) (most : Int) k
  ·right
   obtain ⟨h1, h2⟩ := set_in (v := v) h hj hs
   refine ⟨trivial, ⟨w, j, hj, hs⟩, _, ?_, h1, h2⟩
   rw [e, Option.bind_some]
   simp only [Bool.not_true, cond_false, ckN hj, Option.bind_some, rdI_sl hj, hs, Option.map_some, stI_nat hj]
  ·left
   refine ⟨trivial, ha, ?_⟩
   rw [e]; rfl

theorem get_ok {l : List Slot} {most n : Nat} (h : Ivt most n l) {k : K4} (hk : okV k) :
  (∃ v, mayV k = true ∧ has l k v ∧ exact_Map_Get_ca4 (l, (n : Int), (most : Int), ()) k = some ((v, true, ()), (l, (n : Int), (most : Int), ()), ())) ∨
  ((mayV k = false ∨ ∀ w, ¬ has l k w) ∧ exact_Map_Get_ca4 (l, (n : Int), (most : Int), ()) k = some ((0, false, ()), (l, (n : Int), (most : Int), ()), ())) := by
 have hke : (k.1, k.2.1, k.2.2.1, ()) = k := rfl
 unfold exact_Map_Get_ca4
 dsimp only
 rw [hke, may_map hk, Option.bind_some]
 dsimp only
 cases hm : mayV k with
 | false => exact .inr ⟨.inl rfl, rfl⟩
 | true =>
  simp only [Bool.not_true, cond_false]
  obtain ⟨j, hj, ⟨w, e, hs⟩ | ⟨e, hu, ha, hp⟩⟩ := find_ok h (n : Int) (most : Int) k
  ·left
   refine ⟨w, trivial, ⟨j, hj, hs⟩, ?_⟩
   rw [e, Option.bind_some]
   simp only [ckN hj, Option.bind_some, rdI_sl hj, hs, Option.map_some]
  ·right
   refine ⟨.inr ha, ?_⟩
   rw [e, Option.bind_some]
   have hz := h.emp j hj hu
   simp only [ckN hj, Option.bind_some, rdI_sl hj, hz, Option.map_some, sZ]

end Go.L

namespace Go.L
open Go Go.Pv
set_option maxRecDepth 100000

def cc (s e x : Nat) : Nat := ds s (nx s e) x

theorem cc_lt {s e x : Nat} (he : e < s) (hx : x < s) : cc s e x < s := ds_lt (nx_lt he) hx
theorem cc_inj {s e x y : Nat} (he : e < s) (hx : x < s) (hy : y < s) (h : cc s e x = cc s e y) : x = y := ds_inj (nx_lt he) hx hy h
theorem cc_self {s e : Nat} (he : e < s) : cc s e e = s - 1 := by
 unfold cc ds nx
 split <;> split <;> omega
theorem cc_nx {s e i : Nat} (he : e < s) (hi : i < s) (hd : cc s e i + 1 < s) : cc s e (nx s i) = cc s e i + 1 := ds_nx (nx_lt he) hi hd

theorem conv1 {s e h k x : Nat} (he : e < s) (hh : h < s) (hk : k < s) (hx : x < s) (h1 : cc s e h ≤ cc s e k) (h2 : ds s h x < ds s h k) : cc s e h ≤ cc s e x ∧ cc s e x < cc s e k := by
 unfold cc at *
 have ha := nx_lt he
 generalize nx s e = a at *
 unfold ds at *
 split at h1 <;> split at h1 <;> split at h2 <;> split at h2 <;> split <;> (try split) <;> omega

theorem conv2 {s e h k : Nat} (he : e < s) (hh : h < s) (hk : k < s) (h1 : ds s h k ≤ ds s h e) : cc s e h ≤ cc s e k := by
 unfold cc ds nx at *
 split at h1 <;> split at h1 <;> split <;> split <;> (try split) <;> omega

theorem conv3 {s e h k x : Nat} (he : e < s) (hh : h < s) (hk : k < s) (hx : x < s) (h1 : cc s e h ≤ cc s e x) (h2 : cc s e x < cc s e k) : ds s h x < ds s h k := by
 unfold cc at *
 have ha := nx_lt he
 generalize nx s e = a at *
 unfold ds at *
 split at h1 <;> split at h1 <;> split at h2 <;> (try split at h2) <;> split <;> (try split) <;> omega

theorem btw {s e h g i : Nat} (he : e < s) (hh : h < s) (hg : g < s) (hi : i < s) (h1 : cc s e g < cc s e i) (h2 : cc s e h ≤ cc s e i) : (g ≤ i → ((g < h ∧ h ≤ i) ↔ cc s e g < cc s e h)) ∧ (¬ g ≤ i → ((g < h ∨ h ≤ i) ↔ cc s e g < cc s e h)) := by
 unfold cc at *
 have ha := nx_lt he
 generalize nx s e = a at *
 unfold ds at *
 split at h1 <;> split at h1 <;> split at h2 <;> (try split at h2) <;> constructor <;> intro h3 <;> constructor <;> intro h4 <;> (try split) <;> (try split) <;> (try split at h4) <;> (try split at h4) <;> omega

theorem between_ok {s e h g i : Nat} (he : e < s) (hh : h < s) (hg : g < s) (hi : i < s) (h1 : cc s e g < cc s e i) (h2 : cc s e h ≤ cc s e i) : exact_between (h : Int) (g : Int) (i : Int) = some ((decide (cc s e g < cc s e h), ()), ()) := by
 obtain ⟨b1, b2⟩ := btw he hh hg hi h1 h2
 unfold exact_between
 by_cases hgi : g ≤ i
 ·have b1 := b1 hgi
  rw [decide_eq_true (show (g : Int) ≤ (i : Int) by omega), cond_true]
  simp only [gsome]
  by_cases hgh : g < h
  ·rw [decide_eq_true (show (h : Int) > (g : Int) by omega)]
   simp only [cond_true]
   have : decide ((h : Int) ≤ (i : Int)) = decide (cc s e g < cc s e h) := decide_eq_decide.2 ⟨fun q => b1.1 ⟨hgh, by omega⟩, fun q => by have := (b1.2 q).2; omega⟩
   rw [this]
  ·rw [decide_eq_false (show ¬ (h : Int) > (g : Int) by omega), decide_eq_false (fun q => hgh (b1.2 q).1)]
   rfl
 ·have b2 := b2 hgi
  rw [decide_eq_false (show ¬ (g : Int) ≤ (i : Int) by omega), cond_false]
  simp only [gsome]
  by_cases hgh : g < h
  ·rw [decide_eq_true (show (h : Int) > (g : Int) by omega), decide_eq_true (b2.1 (.inl hgh))]
   rfl
  ·rw [decide_eq_false (show ¬ (h : Int) > (g : Int) by omega)]
   simp only [Bool.not_false, cond_true, cond_false]
   have : decide ((h : Int) ≤ (i : Int)) = decide (cc s e g < cc s e h) := decide_eq_decide.2 ⟨fun q => b2.1 (.inr (by omega)), fun q => by rcases b2.2 q with q | q <;> omega⟩
   rw [this]

structure Cls (s e g i : Nat) (l : List Slot) : Prop where
 len : l.length = s
 e_lt : e < s
 g_lt : g < s
 i_lt : i < s
 ue : us l e = false
 ug : us l g = false
 ge : g ≠ e
 gi : cc s e g < cc s e i
 emp : ∀ x, x < s → us l x = false → sl l x = sZ
 dis : ∀ x y, x < s → y < s → us l x = true → us l y = true → ky l x = ky l y → x = y
 h1 : ∀ k, k < s → us l k = true → cc s e (hm s (ky l k)) ≤ cc s e k ∧ ∀ x, x < s → cc s e (hm s (ky l k)) ≤ cc s e x → cc s e x < cc s e k → us l x = true ∨ x = g
 h2 : ∀ k, k < s → us l k = true → cc s e g < cc s e k → cc s e k < cc s e i → cc s e g < cc s e (hm s (ky l k))

structure Cld (s e : Nat) (l l' : List Slot) : Prop where
 len : l'.length = s
 ue : us l' e = false
 cnt : l'.countP (·.1) = l.countP (·.1)
 emp : ∀ x, x < s → us l' x = false → sl l' x = sZ
 dis : ∀ x y, x < s → y < s → us l' x = true → us l' y = true → ky l' x = ky l' y → x = y
 h1 : ∀ k, k < s → us l' k = true → cc s e (hm s (ky l' k)) ≤ cc s e k ∧ ∀ x, x < s → cc s e (hm s (ky l' k)) ≤ cc s e x → cc s e x < cc s e k → us l' x = true
 has : ∀ k v, has l' k v ↔ has l k v

theorem close_walk {s e : Nat} (hs : s ≤ 100000) (N M : Int) : ∀ r g i : Nat, ∀ l : List Slot, Cls s e g i l → s - 1 - cc s e i = r →
  ∃ l', loopR (fun (z : (Int × Int × Unit) × (Mp × Unit)) => exact_Map_close_deb_s0 z.1.1 z.1.2.1 z.2.1) (((g : Int), (i : Int), ()), (l, N, M, ()), ()) = some ((), (l', N, M, ()), ()) ∧ Cld s e l l' := by
 intro r
 induction r with
 | zero => ?_
 | succ r ih => ?_
 all_goals
  intro g i l h hr
  obtain ⟨hlen, he, hg, hi, hue, hug, hge, hgi, hemp, hdis, h1, h2⟩ := h
  have hil : i < l.length := by omega
  have hgl : g < l.length := by omega
  cases hui : us l i with
  | false =>
   refine ⟨l, loopR_out ?_, hlen, hue, rfl, hemp, hdis, ?_, fun _ _ => Iff.rfl⟩
   ·dsimp only
    unfold exact_Map_close_deb_s0
    have hu : (sl l i).1 = false := hui
    dsimp only
    rw [ckN hil, Option.bind_some, rdI_sl hil, Option.map_some, Option.bind_some, hu, cond_false]
   ·intro k hk huk
    obtain ⟨a1, a2⟩ := h1 k hk huk
    refine ⟨a1, fun x hx b1 b2 => ?_⟩
    rcases a2 x hx b1 b2 with hux | rfl
    ·exact hux
    ·exfalso
     rcases Nat.lt_trichotomy (cc s e k) (cc s e i) with hd | hd | hd
     ·have := h2 k hk huk b2 hd
      omega
     ·have := cc_inj he hk hi hd
      subst this
      rw [hui] at huk; cases huk
     ·rcases a2 i hi (by omega) hd with q | q
      ·rw [hui] at q; cases q
      ·subst q; omega
  | true => ?_
 ·
  exfalso
  have : cc s e i = s - 1 := by
   have := cc_lt he hi
   omega
  rw [← cc_self he] at this
  have := cc_inj he hi he this
  subst this
  rw [hue] at hui; cases hui
 ·have hu : (sl l i).1 = true := hui
  have hie : i ≠ e := fun q => by rw [q, hue] at hui; cases hui
  have hlt := cc_lt he hi
  have hne : cc s e i ≠ s - 1 := fun q => hie (cc_inj he hi he (by rw [q, cc_self he]))
  have hn := cc_nx he hi (by omega)
  obtain ⟨a1, a2⟩ := h1 i hi hui
  have hh : hm s (ky l i) < s := Nat.mod_lt _ (by omega)
  have hb := between_ok he hh hg hi hgi a1
  have hhome : exact_Map_home_ca4 (l, N, M, ()) (ky l i) = _ := home_ok (n := N) (m := M) (k := ky l i) (by omega) (by omega)
  rw [hlen] at hhome
  have hnext : ∀ l' : List Slot, l'.length = s → exact_Map_next_deb (l', N, M, ()) (i : Int) = some ((((nx s i : Nat) : Int), ()), (l', N, M, ()), ()) := by
   intro l' hl'
   have := next_ok (l := l') (n := N) (m := M) (i := i) (by omega) (by omega)
   rw [hl'] at this
   exact this
  by_cases hc : cc s e g < cc s e (hm s (ky l i))
  ·
   obtain ⟨l', e1, e2⟩ := ih g (nx s i) l ⟨hlen, he, hg, nx_lt hi, hue, hug, hge, by omega, hemp, hdis, h1, fun k hk huk b1 b2 => by
    rw [hn] at b2
    by_cases hki : cc s e k = cc s e i
    ·have := cc_inj he hk hi hki
     subst this
     exact hc
    ·exact h2 k hk huk b1 (by omega)⟩ (by omega)
   refine ⟨l', loopR_on ?_ e1, e2⟩
   dsimp only
   unfold exact_Map_close_deb_s0
   dsimp only
   have hk : (sl l i).2.1.1 = ky l i := rfl
   rw [ckN hil, Option.bind_some, rdI_sl hil, Option.map_some, Option.bind_some, hu, cond_true]
   simp only [Option.bind_some, Option.map_some, rdI_sl hil]
   rw [hk, hhome, Option.bind_some]
   dsimp only
   rw [hb, decide_eq_true hc, Option.bind_some]
   dsimp only
   rw [cond_true, hnext l hlen]
   rfl
  ·
   have hgi' : g ≠ i := fun q => by subst q; omega
   let l2 := (l.set g (sl l i)).set i sZ
   have hl1 : (l.set g (sl l i)).length = l.length := List.length_set
   have hl2 : l2.length = s := by show ((l.set g (sl l i)).set i sZ).length = s; rw [List.length_set, hl1, hlen]
   have sl2 : ∀ x, sl l2 x = if i = x then sZ else if g = x then sl l i else sl l x := by
    intro x
    show sl ((l.set g (sl l i)).set i sZ) x = _
    rw [sl_set (by omega), sl_set hgl]
   have us2 : ∀ x, us l2 x = if i = x then false else if g = x then true else us l x := by
    intro x
    unfold us
    rw [sl2]
    split
    ·rfl
    ·split
     ·exact hu
     ·rfl
   have ky2 : ∀ x, i ≠ x → ky l2 x = if g = x then ky l i else ky l x := by
    intro x hx
    unfold ky
    rw [sl2, if_neg hx]
    split <;> rfl
   have hcls : Cls s e i (nx s i) l2 := by
    refine ⟨hl2, he, hi, nx_lt hi, ?_, ?_, hie, by omega, ?_, ?_, ?_, ?_⟩
    ·rw [us2, if_neg hie, if_neg hge]; exact hue
    ·rw [us2, if_pos rfl]
    ·intro x hx hux
     rw [us2] at hux
     rw [sl2]
     split
     ·rfl
     ·rename_i hix
      rw [if_neg hix] at hux
      split
      ·rename_i hgx; rw [if_pos hgx] at hux; cases hux
      ·rename_i hgx; rw [if_neg hgx] at hux; exact hemp x hx hux
    ·intro x y hx hy hux huy hk
     rw [us2] at hux huy
     have ix : i ≠ x := fun q => by rw [if_pos q] at hux; cases hux
     have iy : i ≠ y := fun q => by rw [if_pos q] at huy; cases huy
     rw [if_neg ix] at hux
     rw [if_neg iy] at huy
     rw [ky2 x ix, ky2 y iy] at hk
     by_cases gx : g = x
     ·by_cases gy : g = y
      ·rw [← gx, ← gy]
      ·rw [if_neg gy] at huy hk
       rw [if_pos gx] at hk
       exact absurd (hdis i y hi hy hui huy hk) iy
     ·by_cases gy : g = y
      ·rw [if_neg gx] at hux hk
       rw [if_pos gy] at hk
       exact absurd (hdis x i hx hi hux hui hk).symm ix
      ·rw [if_neg gx] at hux hk
       rw [if_neg gy] at huy hk
       exact hdis x y hx hy hux huy hk
    ·intro k hk huk
     rw [us2] at huk
     have ik : i ≠ k := fun q => by rw [if_pos q] at huk; cases huk
     rw [if_neg ik] at huk
     rw [ky2 k ik]
     by_cases gk : g = k
     ·rw [if_pos gk]
      subst gk
      refine ⟨by omega, fun x hx b1 b2 => .inl ?_⟩
      have xi : i ≠ x := fun q => by subst q; omega
      have xg : g ≠ x := fun q => by subst q; omega
      rw [us2, if_neg xi, if_neg xg]
      rcases a2 x hx b1 (by omega) with q | q
      ·exact q
      ·exact absurd q.symm xg
     ·rw [if_neg gk] at huk ⊢
      obtain ⟨c1, c2⟩ := h1 k hk huk
      refine ⟨c1, fun x hx b1 b2 => ?_⟩
      by_cases xi : i = x
      ·exact .inr xi.symm
      ·left
       rw [us2, if_neg xi]
       rcases c2 x hx b1 b2 with q | q
       ·split
        ·rfl
        ·exact q
       ·rw [if_pos q.symm]
    ·intro k hk huk b1 b2
     rw [hn] at b2
     omega
   obtain ⟨l', e1, e2⟩ := ih i (nx s i) l2 hcls (by omega)
   refine ⟨l', loopR_on ?_ e1, ⟨e2.len, e2.ue, ?_, e2.emp, e2.dis, e2.h1, fun k v => (e2.has k v).trans ?_⟩⟩
   ·dsimp only
    unfold exact_Map_close_deb_s0
    dsimp only
    have hk : (sl l i).2.1.1 = ky l i := rfl
    rw [ckN hil, Option.bind_some, rdI_sl hil, Option.map_some, Option.bind_some, hu, cond_true]
    simp only [Option.bind_some, Option.map_some, rdI_sl hil]
    rw [hk, hhome, Option.bind_some]
    dsimp only
    rw [hb, decide_eq_false hc, Option.bind_some]
    dsimp only
    rw [cond_false, ckN hil, Option.bind_some, rdI_sl hil, Option.bind_some, ckN hgl, Option.bind_some, stI_nat hgl, Option.map_some, Option.bind_some]
    dsimp only
    rw [ckN (by omega), Option.bind_some]
    have hst : stI (l.set g (sl l i)) (i : Int) (false, ((0, 0, 0, ()), 0, ()), ()) = some l2 := stI_nat (by omega)
    rw [hst, Option.map_some, Option.bind_some, hnext l2 hl2]
    rfl
   ·rw [e2.cnt]
    have k1 := cnt_set (l := l) (v := sl l i) hgl
    have k2 := cnt_set (l := l.set g (sl l i)) (i := i) (v := sZ) (by omega)
    rw [hug, hu] at k1
    rw [us_set hgl, if_neg hgi', hui] at k2
    have : ((sZ : Slot).1 = true) = False := by simp [sZ]
    simp only [this, if_false, if_true, Bool.false_eq_true] at k1 k2
    show ((l.set g (sl l i)).set i sZ).countP (·.1) = _
    omega
   ·constructor
    ·rintro ⟨x, hx, q⟩
     rw [sl2] at q
     split at q
     ·simp [sZ] at q
     ·split at q
      ·exact ⟨i, hil, q⟩
      ·exact ⟨x, by omega, q⟩
    ·rintro ⟨x, hx, q⟩
     by_cases xi : i = x
     ·subst xi
      exact ⟨g, by omega, by rw [sl2, if_neg (Ne.symm hgi'), if_pos rfl]; exact q⟩
     ·have xg : g ≠ x := fun y => by
       subst y
       unfold us at hug
       rw [q] at hug; cases hug
      exact ⟨x, by omega, by rw [sl2, if_neg xi, if_neg xg]; exact q⟩

end Go.L

namespace Go.L
open Go Go.Pv
set_option maxRecDepth 100000

theorem loop_inv {σ ρ : Type} {f : σ → Option (σ ⊕ ρ)} {P : Nat → σ → Prop} {n : Nat} {r : ρ} (step : ∀ i x, i < n → P i x → ∃ y, f x = some (.inl y) ∧ P (i + 1) y) (stop : ∀ x, P n x → f x = some (.inr r)) : ∀ k i x, n - i = k → i ≤ n → P i x → loopR f x = some r := by
 intro k
 induction k with
 | zero =>
  intro i x hk hi hp
  have : i = n := by omega
  subst this
  exact loopR_out (stop x hp)
 | succ k ih =>
  intro i x hk hi hp
  obtain ⟨y, h1, h2⟩ := step i x (by omega) hp
  exact loopR_on h1 (ih (i + 1) y (by omega) (by omega) h2)

theorem drop_ok {l : List Slot} {most n : Nat} (h : Ivt most n l) {k : K4} (hk : okV k) :
  (mayV k = false ∧ exact_Map_Drop_ca4 (l, (n : Int), (most : Int), ()) k = some ((1, ()), (l, (n : Int), (most : Int), ()), ())) ∨
  (mayV k = true ∧ (∀ w, ¬ has l k w) ∧ exact_Map_Drop_ca4 (l, (n : Int), (most : Int), ()) k = some ((5, ()), (l, (n : Int), (most : Int), ()), ())) ∨
  (mayV k = true ∧ (∃ w, has l k w) ∧ 1 ≤ n ∧ ∃ l', exact_Map_Drop_ca4 (l, (n : Int), (most : Int), ()) k = some ((0, ()), (l', ((n - 1 : Nat) : Int), (most : Int), ()), ()) ∧ Ivt most (n - 1) l' ∧ ∀ k' v', has l' k' v' ↔ k' ≠ k ∧ has l k' v') := by
 have hke : (k.1, k.2.1, k.2.2.1, ()) = k := rfl
 unfold exact_Map_Drop_ca4
 dsimp only
 rw [hke, may_map hk, Option.bind_some]
 dsimp only
 cases hmv : mayV k with
 | false => exact .inl ⟨rfl, rfl⟩
 | true =>
  right
  simp only [Bool.not_true, cond_false]
  obtain ⟨j, hj, ⟨w, e, hs⟩ | ⟨e, hu, ha, hp⟩⟩ := find_ok h (n : Int) (most : Int) k
  ·right
   have hsm := h.sm
   have hbig := h.big
   have hnm := h.nm
   have huj : us l j = true := by unfold us; rw [hs]
   have hkj : ky l j = k := by unfold ky; rw [hs]
   obtain ⟨q, hq, huq⟩ := h.free
   have hjq : j ≠ q := fun y => by rw [y, huq] at huj; cases huj
   have hlen : (l.set j sZ).length = l.length := List.length_set
   have us1 : ∀ x, us (l.set j sZ) x = if j = x then false else us l x := by
    intro x
    rw [us_set hj]
    split <;> rfl
   have hcnt := cnt_set (l := l) (v := sZ) hj
   have hz : ((sZ : Slot).1 = true) = False := by simp [sZ]
   rw [huj, h.cnt] at hcnt
   simp only [hz, if_false, if_true] at hcnt
   have hn1 : 1 ≤ n := by omega
   have hc1 : (l.set j sZ).countP (·.1) = n - 1 := by omega
   have hne : cc l.length q j ≠ l.length - 1 := fun y => hjq (cc_inj hq hj hq (by rw [y, cc_self hq]))
   have hcl := cc_lt hq hj
   have hn := cc_nx hq hj (by omega)
   have hcls : Cls l.length q j (nx l.length j) (l.set j sZ) := by
    refine ⟨hlen, hq, hj, nx_lt hj, by rw [us1, if_neg hjq]; exact huq, by rw [us1, if_pos rfl], hjq, by omega, ?_, ?_, ?_, ?_⟩
    ·intro x hx hux
     rw [us1] at hux
     rw [sl_set hj]
     split
     ·rfl
     ·rename_i hne; rw [if_neg hne] at hux; exact h.emp x hx hux
    ·intro x y hx hy hux huy hkk
     rw [us1] at hux huy
     have jx : j ≠ x := fun q => by rw [if_pos q] at hux; cases hux
     have jy : j ≠ y := fun q => by rw [if_pos q] at huy; cases huy
     rw [if_neg jx] at hux
     rw [if_neg jy] at huy
     rw [ky_set hj, ky_set hj, if_neg jx, if_neg jy] at hkk
     exact h.dis x y hx hy hux huy hkk
    ·intro x hx hux
     rw [us1] at hux
     have jx : j ≠ x := fun q => by rw [if_pos q] at hux; cases hux
     rw [if_neg jx] at hux
     rw [ky_set hj, if_neg jx]
     have hh : hm l.length (ky l x) < l.length := Nat.mod_lt _ (by omega)
     refine ⟨conv2 hq hh hx ?_, fun y hy b1 b2 => ?_⟩
     ·refine Nat.not_lt.1 fun hd => ?_
      have := h.rch x hx hux q hq hd
      rw [huq] at this; cases this
     ·have := h.rch x hx hux y hy (conv3 hq hh hx hy b1 b2)
      by_cases jy : j = y
      ·exact .inr jy.symm
      ·exact .inl (by rw [us1, if_neg jy]; exact this)
    ·intro x hx hux b1 b2
     omega
   obtain ⟨l', e1, e2⟩ := close_walk (by omega) ((n - 1 : Nat) : Int) (most : Int) _ j (nx l.length j) (l.set j sZ) hcls rfl
   refine ⟨trivial, ⟨w, j, hj, hs⟩, hn1, l', ?_, ⟨h.m1, by rw [e2.len]; exact hbig, by rw [e2.len]; exact hsm, by rw [e2.cnt, hc1], by omega, ?_, ?_, ?_⟩, ?_⟩
   ·rw [e, Option.bind_some]
    simp only [Bool.not_true, cond_false, ckN hj, Option.bind_some]
    have hst : stI l (j : Int) (false, ((0, 0, 0, ()), 0, ()), ()) = some (l.set j sZ) := stI_nat hj
    rw [hst, Option.map_some, Option.bind_some]
    have hw : IntKind.i64.wrap ((n : Int) - 1) = ((n - 1 : Nat) : Int) := by rw [wrap_i64 (by omega) (by omega)]; omega
    dsimp only
    rw [hw]
    unfold exact_Map_close_deb
    have hnx := next_ok (l := l.set j sZ) (n := ((n - 1 : Nat) : Int)) (m := (most : Int)) (i := j) (by omega) (by omega)
    rw [hlen] at hnx
    dsimp only
    rw [hnx, Option.bind_some]
    dsimp only
    rw [e1]
    rfl
   ·rw [e2.len]; exact e2.emp
   ·rw [e2.len]; exact e2.dis
   ·rw [e2.len]
    intro x hx hux y hy hd
    obtain ⟨b1, b2⟩ := e2.h1 x hx hux
    have hh : hm l.length (ky l' x) < l.length := Nat.mod_lt _ (by omega)
    obtain ⟨c1, c2⟩ := conv1 hq hh hx hy b1 hd
    exact b2 y hy c1 c2
   ·intro k' v'
    rw [e2.has]
    constructor
    ·rintro ⟨x, hx, hxe⟩
     rw [sl_set hj] at hxe
     split at hxe
     ·simp [sZ] at hxe
     ·rename_i jx
      rw [hlen] at hx
      refine ⟨fun ek => jx ?_, ⟨x, hx, hxe⟩⟩
      exact h.dis j x hj hx huj (by unfold us; rw [hxe]) (by rw [hkj]; unfold ky; rw [hxe]; exact ek.symm)
    ·rintro ⟨hne, x, hx, hxe⟩
     refine ⟨x, by rw [hlen]; exact hx, ?_⟩
     rw [sl_set hj, if_neg, hxe]
     intro y
     subst y
     rw [hs] at hxe
     simp only [Prod.mk.injEq, and_true, true_and] at hxe
     exact hne hxe.1.symm
  ·left
   refine ⟨trivial, ha, ?_⟩
   rw [e]; rfl

theorem us_rep (s x : Nat) : us (List.replicate s sZ) x = false := by
 unfold us sl
 rw [List.getD_eq_getElem?_getD, List.getElem?_replicate]
 split <;> rfl

theorem new_ok {most : Nat} (h1 : 1 ≤ most) (h2 : most ≤ 256) : ∃ l, exact_New (most : Int) = some (.inr (((l, 0, (most : Int), ()), ()), ())) ∧ Ivt most 0 l ∧ ∀ k v, ¬ has l k v := by
 unfold exact_New
 simp only [decide_eq_false (show ¬ (most : Int) < 1 by omega), decide_eq_false (show ¬ (most : Int) > 256 by omega), gsome, Bool.not_false, gtrue, Option.bind_some, cond_true, cond_false]
 have main : ∀ k size : Nat, 2 ≤ size → size ≤ 1024 → 2 * most - size = k → ∃ s, 2 * most ≤ s ∧ s ≤ 1024 ∧ loopR (fun (z : (Int × Int × Unit) × Unit) => exact_New_s0 z.1.1 z.1.2.1) (((most : Int), (size : Int), ()), ()) = some (.inr (((List.replicate s sZ, 0, (most : Int), ()), ()), ())) := by
  intro k
  induction k using Nat.strongRecOn with
  | ind k ih =>
   intro size hs1 hs2 hk
   have hw : IntKind.i64.wrap (2 * (most : Int)) = ((2 * most : Nat) : Int) := by rw [wrap_i64 (by omega) (by omega)]; omega
   by_cases hlt : size < 2 * most
   ·obtain ⟨s, e1, e2, e3⟩ := ih (2 * most - 2 * size) (by omega) (2 * size) (by omega) (by omega) rfl
    refine ⟨s, e1, e2, loopR_on ?_ e3⟩
    dsimp only
    unfold exact_New_s0
    rw [hw, decide_eq_true (by omega), cond_true]
    have : IntKind.i64.wrap ((size : Int) * 2) = ((2 * size : Nat) : Int) := by rw [wrap_i64 (by omega) (by omega)]; omega
    rw [this]
   ·refine ⟨size, by omega, hs2, loopR_out ?_⟩
    dsimp only
    unfold exact_New_s0
    rw [hw, decide_eq_false (by omega), cond_false]
    have : mkI 40 (size : Int) (size : Int) ((false, ((0, 0, 0, ()), 0, ()), ()) : Slot) = some (List.replicate size sZ) := by
     unfold mkI
     rw [if_pos ⟨by omega, by omega, by omega⟩, Int.toNat_natCast]
     rfl
    rw [this]
    rfl
 obtain ⟨s, e1, e2, e3⟩ := main _ 2 (by omega) (by omega) rfl
 refine ⟨_, e3, ⟨h1, by simp; omega, by simp; omega, ?_, by omega, ?_, ?_, ?_⟩, ?_⟩
 ·rw [List.countP_replicate]
  simp [sZ]
 ·intro i hi _
  unfold sl
  rw [List.getD_eq_getElem?_getD, List.getElem?_replicate]
  split <;> rfl
 ·intro i j _ _ hu
  rw [us_rep] at hu; cases hu
 ·intro i _ hu
  rw [us_rep] at hu; cases hu
 ·rintro k v ⟨i, _, e⟩
  have := us_rep s i
  unfold us at this
  rw [e] at this; cases this

end Go.L
