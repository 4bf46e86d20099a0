/- The functions that the statements reach as plain Lean, and what they compute. -/
import Derived.Test.YtblhcabnmjanjaaQ11

namespace Go.L
open Go Go.Pv
set_option maxRecDepth 100000

/-- what a letter counts; 16 where it is no digit -/
def dig (c : Int) : Nat := if 48 ≤ c ∧ c ≤ 57 then (c - 48).toNat else if 97 ≤ c ∧ c ≤ 102 then (c - 87).toNat else if 65 ≤ c ∧ c ≤ 70 then (c - 55).toNat else 16

theorem dig_le (c : Int) : dig c ≤ 16 := by unfold dig; split <;> (try split) <;> (try split) <;> omega

theorem word_digit_ok (c : Int) : word_digit c = some (((dig c : Int), ()), ()) := by
  unfold word_digit dig
  simp only [gsome]
  by_cases h1 : 48 ≤ c ∧ c ≤ 57
  · rw [decide_eq_true (show c ≥ 48 from h1.1), decide_eq_true h1.2, if_pos h1]
    simp only [cond_true]
    rw [wrap_u8 (by omega) (by omega), wrap_i64 (by omega) (by omega)]
    congr 3
    omega
  · have e : (bif decide (c ≥ 48) then (bif decide (c ≥ 48) then decide (c ≤ 57) else false) else false) = false := by
      by_cases h : c ≥ 48
      · rw [decide_eq_true h, decide_eq_false (by omega)]; rfl
      · rw [decide_eq_false h]; rfl
    rw [e, cond_false, if_neg h1]
    by_cases h2 : 97 ≤ c ∧ c ≤ 102
    · rw [decide_eq_true (show c ≥ 97 from h2.1), decide_eq_true h2.2, if_pos h2]
      simp only [cond_true]
      rw [wrap_u8 (by omega) (by omega), wrap_i64 (n := c - 97) (by omega) (by omega), wrap_i64 (by omega) (by omega)]
      congr 3
      omega
    · have e : (bif decide (c ≥ 97) then (bif decide (c ≥ 97) then decide (c ≤ 102) else false) else false) = false := by
        by_cases h : c ≥ 97
        · rw [decide_eq_true h, decide_eq_false (by omega)]; rfl
        · rw [decide_eq_false h]; rfl
      rw [e, cond_false, if_neg h2]
      by_cases h3 : 65 ≤ c ∧ c ≤ 70
      · rw [decide_eq_true (show c ≥ 65 from h3.1), decide_eq_true h3.2, if_pos h3]
        simp only [cond_true]
        rw [wrap_u8 (by omega) (by omega), wrap_i64 (n := c - 65) (by omega) (by omega), wrap_i64 (by omega) (by omega)]
        congr 3
        omega
      · have e : (bif decide (c ≥ 65) then (bif decide (c ≥ 65) then decide (c ≤ 70) else false) else false) = false := by
          by_cases h : c ≥ 65
          · rw [decide_eq_true h, decide_eq_false (by omega)]; rfl
          · rw [decide_eq_false h]; rfl
        rw [e, cond_false, if_neg h3]
        rfl

/-- the number that letters spell; none where one of them is no digit -/
def val (b : Nat) : List Int → Nat → Option Nat
  | [], n => some n
  | c :: l, n => if b ≤ dig c then none else val b l (n * b + dig c)

/-- a word and a code: 4 for a letter that is no digit, 7 for too much -/
def read (b : Nat) (l : List Int) (n : Nat) : Nat × Int := match val b l n with
  | none => (0, 4)
  | some m => if 340282366920938463463374607431768211456 ≤ m then (0, 7) else (m, 0)

theorem read_nil (b n : Nat) : read b [] n = if 340282366920938463463374607431768211456 ≤ n then (0, 7) else (n, 0) := rfl
theorem read_bad {b : Nat} {c : Int} (l : List Int) (n : Nat) (h : b ≤ dig c) : read b (c :: l) n = (0, 4) := by unfold read val; rw [if_pos h]
theorem read_on {b : Nat} {c : Int} (l : List Int) (n : Nat) (h : ¬ b ≤ dig c) : read b (c :: l) n = read b l (n * b + dig c) := by unfold read; conv => lhs; unfold val; rw [if_neg h]

theorem drop_cons {l : List Int} {i : Nat} (h : i < l.length) : l.drop i = l.getD i 0 :: l.drop (i + 1) := by
  rw [List.drop_eq_getElem_cons h]
  simp [List.getD, List.getElem?_eq_getElem h]

theorem rd_getD {l : List Int} {i : Nat} (h : i < l.length) : rdI l (i : Int) = some (l.getD i 0) := by
  unfold rdI
  rw [if_pos (by omega)]
  simp [List.getD, List.getElem?_eq_getElem h]

theorem over_next {n b d : Nat} (hb : 2 ≤ b) (hd : d < b) : (if 340282366920938463463374607431768211456 ≤ n then true else decide (340282366920938463463374607431768211455 / b < n)) = true → 340282366920938463463374607431768211456 ≤ n * b := by
  split
  · intro _
    have := Nat.mul_le_mul_left n (show 1 ≤ b by omega)
    omega
  · intro h
    have h := of_decide_eq_true h
    rw [Nat.div_lt_iff_lt_mul (by omega)] at h
    omega

theorem over_no {n b : Nat} (hb : 2 ≤ b) (h : ¬ 340282366920938463463374607431768211455 / b < n) : n * b < 340282366920938463463374607431768211456 := by
  rw [Nat.div_lt_iff_lt_mul (by omega)] at h
  omega

theorem u64_small {n : Nat} (h : n < 1000) : IntKind.u64.wrap (n : Int) = (n : Int) := wu64 (by omega)
theorem wp_small {n : Nat} (h : n < 1000) : ((0, (n : Int), ()) : Int × Int × Unit) = wp n := by
  unfold wp
  rw [Nat.div_eq_of_lt (by omega), Nat.mod_eq_of_lt (by omega)]
  rfl

theorem based_ok {b : Nat} (hb : 2 ≤ b) (hb2 : b ≤ 16) : word_based (b : Int) = some ((true, ()), ()) := by
  unfold word_based
  simp only [gsome, decide_eq_true (show (b : Int) ≥ 2 by omega), decide_eq_true (show (b : Int) ≤ 16 by omega), cond_true]

theorem word_Parse_ok {b : Nat} {l : List Int} (hb : 2 ≤ b) (hb2 : b ≤ 16) (hne : l ≠ []) (hl : l.length < 1000000000) : word_Parse l (b : Int) = some ((wp (read b l 0).1, (read b l 0).2, ()), ()) := by
  unfold word_Parse
  rw [based_ok hb hb2, Option.bind_some]
  simp only [Bool.not_true, cond_false, decide_eq_false hne]
  have main : ∀ k i n : Nat, l.length - i = k → i ≤ l.length → loopR (fun (z : ((List Int) × Int × Bool × Int × Int × Unit) × ((Int × Int × Unit) × (Int × Int × Unit) × Unit)) => word_Parse_s1 z.1.1 z.1.2.1 z.1.2.2.1 z.1.2.2.2.1 z.1.2.2.2.2.1 z.2.1 z.2.2.1) ((l, (b : Int), decide (340282366920938463463374607431768211456 ≤ n), (l.length : Int), (i : Int), ()), (0, 0, ()), wp (n % 340282366920938463463374607431768211456), ()) = some ((wp (read b (l.drop i) n).1, (read b (l.drop i) n).2, ()), ()) := by
    intro k
    induction k with
    | zero =>
      intro i n hk hi
      refine loopR_out ?_
      dsimp only
      unfold word_Parse_s1
      rw [decide_eq_false (show ¬ (i : Int) < (l.length : Int) by omega), cond_false, List.drop_eq_nil_of_le (by omega), read_nil]
      by_cases h : 340282366920938463463374607431768211456 ≤ n
      · rw [decide_eq_true h, if_pos h]
        rfl
      · rw [decide_eq_false h, if_neg h, Nat.mod_eq_of_lt (by omega)]
        rfl
    | succ k ih =>
      intro i n hk hi
      have hil : i < l.length := by omega
      rw [drop_cons hil]
      by_cases hd : b ≤ dig (l.getD i 0)
      · refine loopR_out ?_
        dsimp only
        unfold word_Parse_s1
        rw [decide_eq_true (show (i : Int) < (l.length : Int) by omega), cond_true, rd_getD hil, Option.bind_some, word_digit_ok, Option.bind_some, read_bad _ _ hd]
        dsimp only
        rw [decide_eq_true (show (dig (l.getD i 0) : Int) ≥ (b : Int) by omega), cond_true]
        rfl
      · refine loopR_on ?_ (by rw [read_on _ _ hd]; exact ih (i + 1) (n * b + dig (l.getD i 0)) (by omega) (by omega))
        dsimp only
        unfold word_Parse_s1
        rw [decide_eq_true (show (i : Int) < (l.length : Int) by omega), cond_true, rd_getD hil, Option.bind_some, word_digit_ok, Option.bind_some]
        dsimp only
        generalize dig (l.getD i 0) = d at hd ⊢
        have hpv : ((wp (n % 340282366920938463463374607431768211456)).1, (wp (n % 340282366920938463463374607431768211456)).2.1, ()) = wp (n % 340282366920938463463374607431768211456) := rfl
        have hmn := Nat.mod_lt n (show 0 < 340282366920938463463374607431768211456 by omega)
        rw [decide_eq_false (show ¬ (d : Int) ≥ (b : Int) by omega), cond_false, wp0, word_Not_ok (by omega), Option.bind_some, u64_small (show b < 1000 by omega), u64_small (show d < 1000 by omega)]
        dsimp only
        rw [word_Div_ok (by omega) (by omega) (by omega), Option.bind_some, hpv, wp_small (show b < 1000 by omega), wp_small (show d < 1000 by omega), word_Mul_ok hmn (by omega)]
        dsimp only [Option.bind_some]
        have hmm := Nat.mod_lt (n % 340282366920938463463374607431768211456 * b) (show 0 < 340282366920938463463374607431768211456 by omega)
        rw [word_Add_ok hmm (by omega)]
        dsimp only [Option.bind_some]
        simp only [gsome, Nat.sub_zero]
        have hq : 340282366920938463463374607431768211455 / b < 340282366920938463463374607431768211456 := Nat.lt_of_le_of_lt (Nat.div_le_self _ _) (by omega)
        have hval : (n % 340282366920938463463374607431768211456 * b % 340282366920938463463374607431768211456 + d) % 340282366920938463463374607431768211456 = (n * b + d) % 340282366920938463463374607431768211456 := by
          rw [Nat.mod_mul_mod, Nat.mod_add_mod]
        rw [hval, wi64 (by omega)]
        by_cases hov : 340282366920938463463374607431768211456 ≤ n
        · have hnb : 340282366920938463463374607431768211456 ≤ n * b + d := by
            have := Nat.mul_le_mul_left n (show 1 ≤ b by omega)
            omega
          simp only [decide_eq_true hov, decide_eq_true hnb, Bool.not_true, gfalse, cond_true, cond_false]
        · simp only [decide_eq_false hov, Bool.not_false, gtrue, cond_true, cond_false]
          rw [word_Cmp_ok hmn hq, Option.bind_some, Nat.mod_eq_of_lt (show n < 340282366920938463463374607431768211456 by omega)]
          dsimp only
          by_cases hc : 340282366920938463463374607431768211455 / b < n
          · have hnb : 340282366920938463463374607431768211456 ≤ n * b + d := by
              rw [Nat.div_lt_iff_lt_mul (by omega)] at hc
              omega
            rw [decide_eq_true (show cmp n (340282366920938463463374607431768211455 / b) > 0 by unfold cmp; split <;> (try split) <;> omega), decide_eq_true hnb]
            rfl
          · have hnb := over_no hb hc
            rw [decide_eq_false (show ¬ cmp n (340282366920938463463374607431768211455 / b) > 0 by unfold cmp; split <;> (try split) <;> omega), Nat.mod_eq_of_lt hnb]
            rfl
  have := main l.length 0 0 (by omega) (by omega)
  exact this

theorem word_Parse_base {l : List Int} {b : Int} (h : ¬ (2 ≤ b ∧ b ≤ 16)) : word_Parse l b = some (((0, 0, ()), 1, ()), ()) := by
  unfold word_Parse word_based
  simp only [gsome, Option.bind_some]
  have e : (bif decide (b ≥ 2) then (bif decide (b ≥ 2) then decide (b ≤ 16) else false) else false) = false := by
    by_cases h : b ≥ 2
    · rw [decide_eq_true h, decide_eq_false (by omega)]; rfl
    · rw [decide_eq_false h]; rfl
  rw [e]
  rfl

theorem word_Parse_empty {b : Int} (h : 2 ≤ b ∧ b ≤ 16) : word_Parse [] b = some (((0, 0, ()), 3, ()), ()) := by
  unfold word_Parse word_based
  simp only [gsome, Option.bind_some, decide_eq_true (show b ≥ 2 from h.1), decide_eq_true h.2]
  rfl

/-! ### the reference's -/
theorem zeros : ([false, false, false, false, false, false, false, false, false, false, false, false, false, false, false, false, false, false, false, false, false, false, false, false, false, false, false, false, false, false, false, false, false, false, false, false, false, false, false, false, false, false, false, false, false, false, false, false, false, false, false, false, false, false, false, false, false, false, false, false, false, false, false, false, false, false, false, false, false, false, false, false, false, false, false, false, false, false, false, false, false, false, false, false, false, false, false, false, false, false, false, false, false, false, false, false, false, false, false, false, false, false, false, false, false, false, false, false, false, false, false, false, false, false, false, false, false, false, false, false, false, false, false, false, false, false, false, false] : List Bool) = rowB (BitVec.ofNat 128 0) := by decide

def chrU (d : Nat) : Int := if d < 10 then 48 + d else 55 + d

theorem hexU_rd : ∀ d : Nat, d < 16 → rdI ([48, 49, 50, 51, 52, 53, 54, 55, 56, 57, 65, 66, 67, 68, 69, 70] : List Int) (d : Int) = some (chrU d) := by
  have : ∀ n : Fin 16, rdI ([48, 49, 50, 51, 52, 53, 54, 55, 56, 57, 65, 66, 67, 68, 69, 70] : List Int) ((n.val : Nat) : Int) = some (chrU n.val) := by decide
  exact fun d h => this ⟨d, h⟩

theorem chr_dig {c : Int} {k : Nat} (hk : k < 16) : (c = chr k ∨ c = chrU k) ↔ dig c = k := by
  unfold chr chrU dig
  constructor
  · intro h
    split at h <;> split <;> (try split) <;> (try split) <;> omega
  · intro h
    split at h
    · split <;> omega
    · split at h
      · split <;> omega
      · split at h
        · split <;> omega
        · omega

/-- the search for a digit -/
def found (c : Int) (k : Nat) : Int := if dig c < k then (dig c : Int) else 99

theorem search_ok {b i : Nat} {l : List Int} {ov : Bool} {z v : List Bool} {r : ((((List Int) × Int × Bool × Int × Unit) × ((List Bool) × (List Bool) × Unit)) ⊕ (((List Bool) × Int × Unit) × (Unit)))} (hb2 : b ≤ 16) (hi : i < l.length) (h : ref01_Parse_s2 l (b : Int) ov (i : Int) (found (l.getD i 0) b) (b : Int) z v = some (.inr r)) :
    loopR (fun (z : ((List Int) × Int × Bool × Int × Int × Int × Unit) × ((List Bool) × (List Bool) × Unit)) => ref01_Parse_s2 z.1.1 z.1.2.1 z.1.2.2.1 z.1.2.2.2.1 z.1.2.2.2.2.1 z.1.2.2.2.2.2.1 z.2.1 z.2.2.1) ((l, (b : Int), ov, (i : Int), 99, 0, ()), z, v, ()) = some r := by
  refine loop_up (fun k => (((l, (b : Int), ov, (i : Int), found (l.getD i 0) k, (k : Int), ()), z, v, ()) : ((List Int) × Int × Bool × Int × Int × Int × Unit) × ((List Bool) × (List Bool) × Unit))) b ?_ h 0 (by omega)
  intro k hk
  dsimp only
  unfold ref01_Parse_s2
  rw [decide_eq_true (show (k : Int) < (b : Int) by omega), cond_true, rd_getD hi, Option.bind_some, hex_rd k (by omega), Option.bind_some, hexU_rd k (by omega)]
  simp only [gsome]
  generalize l.getD i 0 = c
  have hcd := chr_dig (c := c) (k := k) (by omega)
  rw [wi64 (by omega)]
  by_cases h1 : c = chr k
  · have hf : found c (k + 1) = (k : Int) := by
      have := hcd.1 (.inl h1)
      unfold found
      rw [if_pos (by omega), this]
    simp only [decide_eq_true h1, Bool.not_true, gfalse, cond_true, hf]
  · simp only [decide_eq_false h1, Bool.not_false, gtrue, Option.bind_some, cond_true, cond_false]
    by_cases h2 : c = chrU k
    · have hf : found c (k + 1) = (k : Int) := by
        have := hcd.1 (.inr h2)
        unfold found
        rw [if_pos (by omega), this]
      simp only [decide_eq_true h2, cond_true, hf]
    · have hf : found c (k + 1) = found c k := by
        have : ¬ dig c = k := fun e => by rcases hcd.2 e with h | h; exact h1 h; exact h2 h
        unfold found
        by_cases h3 : dig c < k
        · rw [if_pos h3, if_pos (by omega)]
        · rw [if_neg h3, if_neg (by omega)]
      simp only [decide_eq_false h2, cond_false, hf]

theorem ref01_Parse_ok {b : Nat} {l : List Int} (hb : 2 ≤ b) (hb2 : b ≤ 16) (hne : l ≠ []) (hl : l.length < 1000000000) : ref01_Parse l (b : Int) = some ((rowB (BitVec.ofNat 128 (read b l 0).1), (read b l 0).2, ()), ()) := by
  unfold ref01_Parse
  simp only [gsome, decide_eq_false (show ¬ (b : Int) < 2 by omega), decide_eq_false (show ¬ (b : Int) > 16 by omega), Bool.not_false, cond_true, cond_false, decide_eq_false hne]
  have hz : List.replicate 128 false = rowB (BitVec.ofNat 128 0) := by decide
  rw [hz]
  have main : ∀ k i n : Nat, ∀ v : List Bool, l.length - i = k → i ≤ l.length → (n < 340282366920938463463374607431768211456 → v = rowB (BitVec.ofNat 128 n)) → loopR (fun (z : ((List Int) × Int × Bool × Int × Unit) × ((List Bool) × (List Bool) × Unit)) => ref01_Parse_s0 z.1.1 z.1.2.1 z.1.2.2.1 z.1.2.2.2.1 z.2.1 z.2.2.1) ((l, (b : Int), decide (340282366920938463463374607431768211456 ≤ n), (i : Int), ()), rowB (BitVec.ofNat 128 0), v, ()) = some ((rowB (BitVec.ofNat 128 (read b (l.drop i) n).1), (read b (l.drop i) n).2, ()), ()) := by
    intro k
    induction k with
    | zero =>
      intro i n v hk hi hv
      refine loopR_out ?_
      dsimp only
      unfold ref01_Parse_s0
      rw [decide_eq_false (show ¬ (i : Int) < (l.length : Int) by omega), cond_false, List.drop_eq_nil_of_le (by omega), read_nil]
      by_cases h : 340282366920938463463374607431768211456 ≤ n
      · rw [decide_eq_true h, if_pos h, cond_true, zeros]
        rfl
      · rw [decide_eq_false h, if_neg h, hv (by omega)]
        rfl
    | succ k ih =>
      intro i n v hk hi hv
      have hil : i < l.length := by omega
      rw [drop_cons hil]
      by_cases hd : b ≤ dig (l.getD i 0)
      · refine loopR_out ?_
        dsimp only
        unfold ref01_Parse_s0
        rw [decide_eq_true (show (i : Int) < (l.length : Int) by omega), cond_true, read_bad _ _ hd]
        refine search_ok hb2 hil ?_
        unfold ref01_Parse_s2
        rw [decide_eq_false (show ¬ (b : Int) < (b : Int) by omega), cond_false, show found (l.getD i 0) b = 99 by unfold found; rw [if_neg (by omega)], decide_eq_true (show (99 : Int) = 99 from rfl), cond_true, zeros]
        rfl
      · have hf : found (l.getD i 0) b = (dig (l.getD i 0) : Int) := by unfold found; rw [if_pos (by omega)]
        by_cases hov : 340282366920938463463374607431768211456 ≤ n
        · have hnb : 340282366920938463463374607431768211456 ≤ n * b + dig (l.getD i 0) := by
            have := Nat.mul_le_mul_left n (show 1 ≤ b by omega)
            omega
          refine loopR_on ?_ (by rw [read_on _ _ hd]; exact ih (i + 1) (n * b + dig (l.getD i 0)) v (by omega) (by omega) (fun h => absurd h (by omega)))
          dsimp only
          unfold ref01_Parse_s0
          rw [decide_eq_true (show (i : Int) < (l.length : Int) by omega), cond_true]
          refine search_ok hb2 hil ?_
          unfold ref01_Parse_s2
          rw [decide_eq_false (show ¬ (b : Int) < (b : Int) by omega), cond_false, hf, decide_eq_false (show ¬ (dig (l.getD i 0) : Int) = 99 by omega), cond_false, decide_eq_true hov, decide_eq_true hnb, wi64 (by omega)]
          rfl
        · have hnl : n < 340282366920938463463374607431768211456 := by omega
          have hv := hv hnl
          subst hv
          refine loopR_on (y := ((l, (b : Int), decide (340282366920938463463374607431768211456 ≤ n * b + dig (l.getD i 0)), ((i + 1 : Nat) : Int), ()), rowB (BitVec.ofNat 128 0), rowB (BitVec.ofNat 128 (n * b + dig (l.getD i 0))), ())) ?_ (by rw [read_on _ _ hd]; exact ih (i + 1) (n * b + dig (l.getD i 0)) _ (by omega) (by omega) (fun h => rfl))
          dsimp only
          unfold ref01_Parse_s0
          rw [decide_eq_true (show (i : Int) < (l.length : Int) by omega), cond_true]
          refine search_ok hb2 hil ?_
          unfold ref01_Parse_s2
          have hlit : ~~~ (BitVec.ofNat 128 0) = BitVec.ofNat 128 340282366920938463463374607431768211455 := by decide
          rw [decide_eq_false (show ¬ (b : Int) < (b : Int) by omega), cond_false, hf]
          generalize dig (l.getD i 0) = d at hd ⊢
          rw [decide_eq_false (show ¬ (d : Int) = 99 by omega), cond_false, decide_eq_false hov, Bool.not_false, cond_true, zeros, ref01_Turned_ok, Option.bind_some, ref01_small_ok (show b < 1000000000 by omega), Option.bind_some]
          dsimp only
          rw [hlit, ref01_Part_ok _ _ (by rw [BitVec.toNat_ofNat]; omega), Option.bind_some]
          dsimp only
          have hq : 340282366920938463463374607431768211455 / b < 340282366920938463463374607431768211456 := Nat.lt_of_le_of_lt (Nat.div_le_self _ _) (by omega)
          rw [ref01_Less_ok, Option.bind_some, Option.bind_some]
          dsimp only
          rw [ref01_Product_ok, Option.bind_some, ref01_small_ok (show d < 1000000000 by omega), Option.bind_some]
          dsimp only
          rw [sum0, Option.bind_some]
          simp only [gsome]
          have h1 : (BitVec.ofNat 128 (340282366920938463463374607431768211455 : Nat)).toNat = 340282366920938463463374607431768211455 := by decide
          have h2 : (BitVec.ofNat 128 b).toNat = b := by rw [BitVec.toNat_ofNat, Nat.mod_eq_of_lt (show b < 2 ^ 128 by omega)]
          have h3 : (BitVec.ofNat 128 n).toNat = n := by rw [BitVec.toNat_ofNat, Nat.mod_eq_of_lt (show n < 2 ^ 128 by omega)]
          have h4 : (BitVec.ofNat 128 d).toNat = d := by rw [BitVec.toNat_ofNat, Nat.mod_eq_of_lt (show d < 2 ^ 128 by omega)]
          have h5 : (BitVec.ofNat 128 (340282366920938463463374607431768211455 / b)).toNat = 340282366920938463463374607431768211455 / b := by rw [BitVec.toNat_ofNat, Nat.mod_eq_of_lt hq]
          have hsum : BitVec.ofNat 128 n * BitVec.ofNat 128 b + BitVec.ofNat 128 d = BitVec.ofNat 128 (n * b + d) := by
            apply BitVec.eq_of_toNat_eq
            rw [BitVec.toNat_add, BitVec.toNat_mul, h2, h3, h4, BitVec.toNat_ofNat, Nat.mod_add_mod]
          have hcarry : BitVec.carry 128 (BitVec.ofNat 128 n * BitVec.ofNat 128 b) (BitVec.ofNat 128 d) false = decide (340282366920938463463374607431768211456 ≤ n * b % 340282366920938463463374607431768211456 + d) := by
            unfold BitVec.carry
            rw [BitVec.toNat_mul, h2, h3, h4, Bool.toNat_false, Nat.add_zero]
            have hmm := Nat.mod_lt (n * b) (show 0 < 2 ^ 128 by omega)
            rw [Nat.mod_mod, Nat.mod_eq_of_lt (show d < 2 ^ 128 by omega)]
          rw [h1, h2, h5, h3, hsum, hcarry, wi64 (by omega)]
          by_cases hc : 340282366920938463463374607431768211455 / b < n
          · have hnb : 340282366920938463463374607431768211456 ≤ n * b + d := by
              rw [Nat.div_lt_iff_lt_mul (by omega)] at hc
              omega
            rw [decide_eq_true hc, decide_eq_true hnb]
            rfl
          · have hnb := over_no hb hc
            rw [decide_eq_false hc, Nat.mod_eq_of_lt hnb]
            rfl
  have := main l.length 0 0 (rowB (BitVec.ofNat 128 0)) (by omega) (by omega) (fun _ => rfl)
  exact this

theorem ref01_Parse_base {l : List Int} {b : Int} (h : ¬ (2 ≤ b ∧ b ≤ 16)) : ref01_Parse l b = some ((rowB (BitVec.ofNat 128 0), 1, ()), ()) := by
  unfold ref01_Parse
  simp only [gsome]
  have e : (bif decide (b < 2) then true else (bif !decide (b < 2) then decide (b > 16) else false)) = true := by
    by_cases h : b < 2
    · rw [decide_eq_true h]; rfl
    · rw [decide_eq_false h, decide_eq_true (by omega)]; rfl
  rw [e, cond_true, zeros]

theorem ref01_Parse_empty {b : Int} (h : 2 ≤ b ∧ b ≤ 16) : ref01_Parse [] b = some ((rowB (BitVec.ofNat 128 0), 3, ()), ()) := by
  unfold ref01_Parse
  simp only [gsome, decide_eq_false (show ¬ b < 2 by omega), decide_eq_false (show ¬ b > 16 by omega)]
  rw [← zeros]
  rfl

end Go.L

namespace Go.L
open Go Go.Pv
set_option maxRecDepth 100000

theorem val_append (b : Nat) : ∀ (l l' : List Int) (n : Nat), val b (l ++ l') n = (val b l n).bind (val b l')
  | [], _, _ => rfl
  | c :: l, l', n => by
    show (if b ≤ dig c then none else val b (l ++ l') (n * b + dig c)) = (if b ≤ dig c then none else val b l (n * b + dig c)).bind (val b l')
    split
    · rfl
    · exact val_append b l l' _

theorem val_congr (b : Nat) : ∀ {l l' : List Int} (n : Nat), l.map dig = l'.map dig → val b l n = val b l' n
  | [], [], _, _ => rfl
  | [], _ :: _, _, h => by simp at h
  | _ :: _, [], _, h => by simp at h
  | c :: l, c' :: l', n, h => by
    simp only [List.map_cons, List.cons.injEq] at h
    show (if b ≤ dig c then none else val b l (n * b + dig c)) = (if b ≤ dig c' then none else val b l' (n * b + dig c'))
    rw [h.1, val_congr b _ h.2]

theorem dig_chr : ∀ d : Nat, d < 16 → dig (chr d) = d := by
  have : ∀ n : Fin 16, dig (chr n.val) = n.val := by decide
  exact fun d h => this ⟨d, h⟩

/-- capital letters -/
def up (c : Int) : Int := if 97 ≤ c then c - 32 else c

theorem dig_up : ∀ d : Nat, d < 16 → dig (up (chr d)) = dig (chr d) := by
  have : ∀ n : Fin 16, dig (up (chr n.val)) = dig (chr n.val) := by decide
  exact fun d h => this ⟨d, h⟩

theorem text_eq {b w : Nat} (hb : 2 ≤ b) : text b w = (if w / b = 0 then [] else text b (w / b)) ++ [chr (w % b)] := by
  unfold text
  rw [D_eq hb]
  split
  · rfl
  · simp

theorem val_text {b : Nat} (hb : 2 ≤ b) (hb2 : b ≤ 16) (w : Nat) : val b (text b w) 0 = some w := by
  induction w using Nat.strongRecOn with
  | _ w ih =>
    have hm := Nat.mod_lt w (show 0 < b by omega)
    have one : ∀ n, val b [chr (w % b)] n = some (n * b + w % b) := by
      intro n
      show (if b ≤ dig (chr (w % b)) then none else some (n * b + dig (chr (w % b)))) = _
      rw [dig_chr _ (by omega), if_neg (by omega)]
    rw [text_eq hb, val_append]
    by_cases h : w / b = 0
    · rw [if_pos h]
      show val b [chr (w % b)] 0 = _
      rw [one, Nat.zero_mul, Nat.zero_add]
      have := Nat.div_add_mod w b
      rw [h, Nat.mul_zero] at this
      congr 1
      omega
    · rw [if_neg h, ih (w / b) (Nat.div_lt_self (Nat.pos_of_ne_zero (fun e => h (by rw [e]; simp))) (by omega)), Option.bind_some, one]
      congr 1
      rw [Nat.mul_comm]
      exact Nat.div_add_mod w b

theorem text_head {b : Nat} (hb : 2 ≤ b) (w : Nat) : ∃ d r, text b w = chr d :: r ∧ d < b ∧ (0 < w → d ≠ 0) ∧ (w = 0 → r = []) := by
  induction w using Nat.strongRecOn with
  | _ w ih =>
    have hm := Nat.mod_lt w (show 0 < b by omega)
    rw [text_eq hb]
    by_cases h : w / b = 0
    · rw [if_pos h]
      refine ⟨w % b, [], rfl, hm, fun hp => ?_, fun _ => rfl⟩
      have := Nat.div_add_mod w b
      rw [h, Nat.mul_zero] at this
      omega
    · rw [if_neg h]
      obtain ⟨d, r, e, h1, h2, _⟩ := ih (w / b) (Nat.div_lt_self (Nat.pos_of_ne_zero (fun e => h (by rw [e]; simp))) (by omega))
      refine ⟨d, r ++ [chr (w % b)], by rw [e]; rfl, h1, fun _ => h2 (Nat.pos_of_ne_zero h), fun e => absurd (by rw [e]; simp) h⟩

theorem text_len {b w : Nat} (hb : 2 ≤ b) (hw : w < 340282366920938463463374607431768211456) : (text b w).length ≤ 128 := by
  have := D_len hb 127 w hw
  unfold text
  rw [List.length_reverse, List.length_map]
  exact this

theorem text_ne {b w : Nat} (hb : 2 ≤ b) : text b w ≠ [] := by
  obtain ⟨d, r, e, _⟩ := text_head hb w
  rw [e]
  exact List.cons_ne_nil _ _

theorem text_dig {b w : Nat} (hb : 2 ≤ b) {c : Int} (h : c ∈ text b w) : ∃ d, d < b ∧ c = chr d := by
  unfold text at h
  obtain ⟨d, hd, rfl⟩ := List.mem_map.1 (List.mem_reverse.1 h)
  exact ⟨d, D_lt hb w d hd, rfl⟩

theorem read_of {b : Nat} {l : List Int} {n m : Nat} (h : val b l n = some m) : read b l n = if 340282366920938463463374607431768211456 ≤ m then (0, 7) else (m, 0) := by unfold read; rw [h]

theorem read_text {b w : Nat} (hb : 2 ≤ b) (hb2 : b ≤ 16) (hw : w < 340282366920938463463374607431768211456) : read b (text b w) 0 = (w, 0) := by
  rw [read_of (val_text hb hb2 w), if_neg (by omega)]

theorem read_zeros {b w : Nat} (hb : 2 ≤ b) (hb2 : b ≤ 16) (hw : w < 340282366920938463463374607431768211456) : read b ([48, 48] ++ text b w) 0 = (w, 0) := by
  have h0 : dig 48 = 0 := by decide
  have : val b ([48, 48] ++ text b w) 0 = some w := by
    rw [val_append]
    have : val b [48, 48] 0 = some 0 := by
      show (if b ≤ dig 48 then none else if b ≤ dig 48 then none else some ((0 * b + dig 48) * b + dig 48)) = _
      rw [h0, if_neg (by omega), if_neg (by omega)]
      simp
    rw [this, Option.bind_some, val_text hb hb2]
  rw [read_of this, if_neg (by omega)]

theorem read_up {b w : Nat} (hb : 2 ≤ b) (hb2 : b ≤ 16) (hw : w < 340282366920938463463374607431768211456) : read b ((text b w).map up) 0 = (w, 0) := by
  have : val b ((text b w).map up) 0 = some w := by
    rw [← val_text hb hb2 w]
    refine val_congr b 0 ?_
    rw [List.map_map]
    refine List.map_congr_left fun c hc => ?_
    obtain ⟨d, hd, rfl⟩ := text_dig hb hc
    exact dig_up d (by omega)
  rw [read_of this, if_neg (by omega)]

theorem read_more {b : Nat} (hb : 2 ≤ b) (hb2 : b ≤ 16) : read b (text b 340282366920938463463374607431768211455 ++ [48]) 0 = (0, 7) := by
  have h0 : dig 48 = 0 := by decide
  have : val b (text b 340282366920938463463374607431768211455 ++ [48]) 0 = some (340282366920938463463374607431768211455 * b) := by
    rw [val_append, val_text hb hb2, Option.bind_some]
    show (if b ≤ dig 48 then none else some (340282366920938463463374607431768211455 * b + dig 48)) = _
    rw [h0, if_neg (by omega), Nat.add_zero]
  rw [read_of this, if_pos (by omega)]

theorem word_Text_base {a : Int × Int × Unit} {b : Int} (h : ¬ (2 ≤ b ∧ b ≤ 16)) : word_Text a b = some (([], ()), ()) := by
  unfold word_Text word_based
  simp only [gsome, Option.bind_some]
  have e : (bif decide (b ≥ 2) then (bif decide (b ≥ 2) then decide (b ≤ 16) else false) else false) = false := by
    by_cases h : b ≥ 2
    · rw [decide_eq_true h, decide_eq_false (by omega)]; rfl
    · rw [decide_eq_false h]; rfl
  rw [e]
  rfl

theorem read_lt (b : Nat) (l : List Int) (n : Nat) : (read b l n).1 < 340282366920938463463374607431768211456 := by
  unfold read
  split
  · show 0 < _; omega
  · split
    · show 0 < _; omega
    · show _ < _; omega

/-- both read alike -/
theorem parses {l : List Int} {b : Int} (hl : l.length < 1000000000) : ∃ w c, w < 340282366920938463463374607431768211456 ∧ word_Parse l b = some ((wp w, c, ()), ()) ∧ ref01_Parse l b = some ((rowB (BitVec.ofNat 128 w), c, ()), ()) ∧ (¬ (2 ≤ b ∧ b ≤ 16) → c = 1) := by
  by_cases h : 2 ≤ b ∧ b ≤ 16
  · by_cases he : l = []
    · subst he
      exact ⟨0, 3, by omega, by rw [word_Parse_empty h]; rfl, ref01_Parse_empty h, fun h2 => absurd h h2⟩
    · obtain ⟨k, rfl⟩ : ∃ k : Nat, b = k := ⟨b.toNat, by omega⟩
      exact ⟨_, _, read_lt k l 0, word_Parse_ok (by omega) (by omega) he hl, ref01_Parse_ok (by omega) (by omega) he hl, fun h2 => absurd h h2⟩
  · exact ⟨0, 1, by omega, by rw [word_Parse_base h]; rfl, ref01_Parse_base h, fun _ => rfl⟩

theorem up_chr : ∀ d : Nat, d < 16 → (97 ≤ chr d → IntKind.u8.wrap (chr d - 32) = up (chr d)) := by
  have : ∀ n : Fin 16, (97 ≤ chr n.val → IntKind.u8.wrap (chr n.val - 32) = up (chr n.val)) := by decide
  exact fun d h => this ⟨d, h⟩

end Go.L
