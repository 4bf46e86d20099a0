/- The functions that the statements reach as plain Lean, and what they compute. -/
import Derived.Test.YtffgheglileflaaQ10

set_option linter.unusedSimpArgs false
set_option linter.unusedVariables false

namespace Go.L
open Go Go.Pv
set_option maxRecDepth 100000

theorem or_byte {n v : Nat} (hn : n < 1000000000000) (hv : v < 256) : bitsI .or .i64 (IntKind.i64.wrap ((n : Int) * 2 ^ 8)) (IntKind.i64.wrap (v : Int)) = ((n * 256 + v : Nat) : Int) := by
  have e1 : IntKind.i64.wrap ((n : Int) * 2 ^ 8) = ((n * 256 : Nat) : Int) := by
    rw [wrap_i64 (by omega) (by omega)]; omega
  have e2 : IntKind.i64.wrap (v : Int) = ((v : Nat) : Int) := wrap_i64 (by omega) (by omega)
  rw [e1, e2]
  have h3 : (BitVec.ofInt 64 ((n * 256 : Nat) : Int) ||| BitVec.ofInt 64 ((v : Nat) : Int)).toNat = n * 256 + v := by
    rw [BitVec.ofInt_natCast, BitVec.ofInt_natCast, BitVec.toNat_or, BitVec.toNat_ofNat, BitVec.toNat_ofNat, Nat.mod_eq_of_lt (by omega), Nat.mod_eq_of_lt (by omega)]
    have := Nat.shiftLeft_add_eq_or_of_lt (i := 8) (show v < 2 ^ 8 by omega) n
    rw [Nat.shiftLeft_eq] at this
    exact this.symm
  show IntKind.i64.wrap ((BitVec.ofInt 64 ((n * 256 : Nat) : Int) ||| BitVec.ofInt 64 ((v : Nat) : Int)).toNat : Int) = _
  rw [h3, wrap_i64 (by omega) (by omega)]

abbrev Flt := Option (Int × Int × Unit)
/-- a reader: bytes, how many are taken, the first fault -/
abbrev Rdr := ((List Int) × Int × Flt × Unit) × Unit
abbrev rd (b : List Int) (at_ : Int) (f : Flt) : Rdr := ((b, at_, f, ()), ())

/-- the number of bytes, the highest first -/
def beN (l : List Int) : Nat := l.foldl (fun n v => n * 256 + v.toNat) 0

theorem beN_snoc (l : List Int) (v : Int) : beN (l ++ [v]) = beN l * 256 + v.toNat := by unfold beN; rw [List.foldl_append]; rfl

theorem fold_lt : ∀ (l : List Int) (n : Nat), (∀ v ∈ l, inR .u8 v = true) → l.foldl (fun n v => n * 256 + v.toNat) n < (n + 1) * 256 ^ l.length
  | [], n, _ => by simp
  | v :: l, n, h => by
    have h1 := fold_lt l (n * 256 + v.toNat) fun v hv => h v (by simp [hv])
    have h2 := u8_of (h v (by simp))
    have h3 : (n * 256 + v.toNat + 1) * 256 ^ l.length ≤ ((n + 1) * 256) * 256 ^ l.length := Nat.mul_le_mul_right _ (by omega)
    rw [List.foldl_cons, List.length_cons, Nat.pow_succ, Nat.mul_comm (256 ^ l.length) 256, ← Nat.mul_assoc]
    exact Nat.lt_of_lt_of_le h1 h3

theorem beN_lt (l : List Int) (h : ∀ v ∈ l, inR .u8 v = true) : beN l < 256 ^ l.length := by
  have := fold_lt l 0 h
  unfold beN
  simpa using this

theorem fail_ba6 (b : List Int) (a : Int) (f : Flt) (e p : Int) : wire_cursor_fail_ba6 (b, a, f, ()) e p = some ((), (b, a, (bif f.isNone && !decide (e = 0) then some (e, p, ()) else f), ()), ()) := by
  unfold wire_cursor_fail_ba6
  cases f with
  | none => cases decide (e = 0) <;> rfl
  | some f => rfl

theorem take_c4f {b : List Int} {at_ k : Nat} (f : Flt) (hb : b.length ≤ 1000000) (ha : at_ ≤ b.length) : wire_cursor_take_c4f (b, (at_ : Int), f, ()) (k : Int) =
    some ((bif f.isNone && decide (at_ + k ≤ b.length) then ((((b.drop at_).take k, true, ()), ((b, ((at_ + k : Nat) : Int), f, ()), ()))) else (([], false, ()), ((b, (at_ : Int), f, ()), ())))) := by
  unfold wire_cursor_take_c4f
  cases f with
  | some f => rfl
  | none =>
    have e1 : IntKind.i64.wrap ((b.length : Int) - (at_ : Int)) = (b.length : Int) - (at_ : Int) := wrap_i64 (by omega) (by omega)
    simp only [Option.isNone_none, Bool.not_true, Bool.not_false, gsome, cond_true, cond_false, e1, Bool.true_and]
    by_cases h : at_ + k ≤ b.length
    · have e2 : IntKind.i64.wrap ((at_ : Int) + (k : Int)) = ((at_ + k : Nat) : Int) := by rw [wrap_i64 (by omega) (by omega)]; omega
      have e3 : IntKind.i64.wrap (((at_ + k : Nat) : Int) - (k : Int)) = (at_ : Int) := by rw [wrap_i64 (by omega) (by omega)]; omega
      rw [decide_eq_true h, decide_eq_false (show ¬ ((k : Int) > (b.length : Int) - (at_ : Int)) by omega), cond_false, cond_true, e2, e3]
      have hs : subL b (at_ : Int) ((at_ + k : Nat) : Int) = some ((b.drop at_).take k) := by
        unfold subL
        rw [if_pos ⟨by omega, by omega, by omega⟩]
        congr 1
        rw [Int.toNat_natCast, Int.toNat_natCast, List.drop_take, Nat.add_sub_cancel_left]
      rw [hs]; rfl
    · rw [decide_eq_false h, decide_eq_true (show ((k : Int) > (b.length : Int) - (at_ : Int)) by omega)]
      rfl

/-- reading a number: what it is, and the reader then -/
def rdNum (b : List Int) (at_ : Nat) (f : Flt) (k : Nat) (most : Int) : Int × Nat × Flt :=
  match f with
  | some f => (0, at_, some f)
  | none => if at_ + k ≤ b.length then (if (beN ((b.drop at_).take k) : Int) > most then (0, at_, some (7, (at_ : Int), ())) else ((beN ((b.drop at_).take k) : Int), at_ + k, none)) else (0, at_, some (3, (at_ : Int), ()))

theorem number_ok {b : List Int} {at_ k : Nat} {f : Flt} {most : Int} (hb : b.length ≤ 1000000) (hu : ∀ v ∈ b, inR .u8 v = true) (ha : at_ ≤ b.length) (hk : k ≤ 4) :
    wire_Reader_number_28a (rd b (at_ : Int) f) (k : Int) most = some (((rdNum b at_ f k most).1, ()), rd b ((rdNum b at_ f k most).2.1 : Int) (rdNum b at_ f k most).2.2, ()) := by
  unfold wire_Reader_number_28a
  simp only [rd, take_c4f f hb ha, Option.bind_some]
  cases f with
  | some f => rfl
  | none =>
    simp only [Option.isNone_none, Bool.true_and, rdNum]
    by_cases h : at_ + k ≤ b.length
    · rw [decide_eq_true h, if_pos h]
      simp only [cond_true, Bool.not_true, cond_false]
      have hl : ((b.drop at_).take k).length = k := by rw [List.length_take, List.length_drop]; omega
      have hm : ∀ v ∈ (b.drop at_).take k, inR .u8 v = true := fun v hv => hu v (List.mem_of_mem_drop (List.mem_of_mem_take hv))
      generalize (b.drop at_).take k = l at hl hm
      subst hl
      have key := loop_up (f := fun (z : (Int × Int × Int × (List Int) × Int × Int × Unit) × ((((List Int) × Int × Flt × Unit) × Unit) × Unit)) => wire_Reader_number_28a_s0 z.1.1 z.1.2.1 z.1.2.2.1 z.1.2.2.2.1 z.1.2.2.2.2.1 z.1.2.2.2.2.2.1 z.2.1)
        (fun i => ((most, (at_ : Int), (beN (l.take i) : Int), l, (l.length : Int), (i : Int), ()), (rd b ((at_ + l.length : Nat) : Int) none, ()))) l.length
        (r := ((if (beN l : Int) > most then (0, ()) else ((beN l : Int), ())), (if (beN l : Int) > most then rd b (at_ : Int) (some (7, (at_ : Int), ())) else rd b ((at_ + l.length : Nat) : Int) none), ()))
        (fun i hi => by
          dsimp only
          unfold wire_Reader_number_28a_s0
          rw [dlt hi, cond_true]
          have hv := u8_of (hm l[i] (List.getElem_mem hi))
          have hr : rdI l (i : Int) = some l[i] := by
            unfold rdI
            rw [if_pos (by omega), Int.toNat_natCast, List.getElem?_eq_getElem hi]
          rw [hr, Option.bind_some]
          have hlt := beN_lt (l.take i) fun v hv => hm v (List.mem_of_mem_take hv)
          have hp : 256 ^ (l.take i).length ≤ 256 ^ 3 := Nat.pow_le_pow_right (by omega) (by rw [List.length_take]; omega)
          have e : l[i] = ((l[i].toNat : Nat) : Int) := by omega
          have hb := or_byte (n := beN (l.take i)) (v := l[i].toNat) (by omega) (by omega)
          rw [e, hb, wi64 (by omega)]
          have ht : l.take (i + 1) = l.take i ++ [l[i]] := by rw [List.take_add_one, List.getElem?_eq_getElem hi]; rfl
          rw [ht, beN_snoc])
        (by
          dsimp only
          unfold wire_Reader_number_28a_s0
          rw [decide_eq_false (show ¬ ((l.length : Int) < (l.length : Int)) by omega), cond_false, List.take_length]
          by_cases hmo : (beN l : Int) > most
          · simp only [decide_eq_true hmo, cond_true, if_pos hmo, fail_ba6, Option.bind_some]
            rfl
          · simp only [decide_eq_false hmo, cond_false, if_neg hmo]
            rfl) 0 (Nat.zero_le _)
      simp only [List.take_zero] at key
      refine Eq.trans ?_ (key.trans ?_)
      · rfl
      · by_cases hmo : (beN l : Int) > most
        · simp only [if_pos hmo]
        · simp only [if_neg hmo]
    · rw [decide_eq_false h, if_neg h]
      simp only [cond_false, Bool.not_false, cond_true, fail_ba6, Option.bind_some]
      rfl

end Go.L

namespace Go.L
open Go Go.Pv
set_option maxRecDepth 100000

/-- what a letter counts; 16 where it is no digit -/
def dig (c : Int) : Nat := if 48 ≤ c ∧ c ≤ 57 then (c - 48).toNat else if 97 ≤ c ∧ c ≤ 102 then (c - 87).toNat else if 65 ≤ c ∧ c ≤ 70 then (c - 55).toNat else 16

/-- the number that letters spell; none where one of them is no digit -/
def val (b : Nat) : List Int → Nat → Option Nat
  | [], n => some n
  | c :: l, n => if b ≤ dig c then none else val b l (n * b + dig c)

/-- a word and a code: 4 for a letter that is no digit, 7 for too much -/
def read (b : Nat) (l : List Int) (n : Nat) : Nat × Int := match val b l n with
  | none => (0, 4)
  | some m => if 340282366920938463463374607431768211456 ≤ m then (0, 7) else (m, 0)

/-! ### the reference's -/
theorem zeros : ([false, false, false, false, false, false, false, false, false, false, false, false, false, false, false, false, false, false, false, false, false, false, false, false, false, false, false, false, false, false, false, false, false, false, false, false, false, false, false, false, false, false, false, false, false, false, false, false, false, false, false, false, false, false, false, false, false, false, false, false, false, false, false, false, false, false, false, false, false, false, false, false, false, false, false, false, false, false, false, false, false, false, false, false, false, false, false, false, false, false, false, false, false, false, false, false, false, false, false, false, false, false, false, false, false, false, false, false, false, false, false, false, false, false, false, false, false, false, false, false, false, false, false, false, false, false, false, false] : List Bool) = rowB (BitVec.ofNat 128 0) := by decide

end Go.L

namespace Go.L
open Go Go.Pv
set_option maxRecDepth 100000

/-- capital letters -/
def up (c : Int) : Int := if 97 ≤ c then c - 32 else c

end Go.L

namespace Go.L
open Go Go.Pv
set_option maxRecDepth 100000

theorem vec_Word_ok (w : Int) (x : Nat) : vec_Word (vw w x) = some ((wp x, ()), ()) := rfl
theorem vec_row_ok (w : Int) (x : Nat) : vec_row w (wp x) = some ((vw w x, ()), ()) := rfl

theorem width_ok (w : Int) : vec_width w = some ((decide (1 ≤ w ∧ w ≤ 128), ()), ()) := by
  unfold vec_width
  simp only [gsome]
  by_cases h : 1 ≤ w ∧ w ≤ 128
  · rw [decide_eq_true (show w ≥ 1 from h.1), decide_eq_true h.2, decide_eq_true h]; rfl
  · rw [decide_eq_false h]
    by_cases h1 : w ≥ 1
    · rw [decide_eq_true h1, decide_eq_false (by omega)]; rfl
    · rw [decide_eq_false h1]; rfl

theorem vec_Cut_ok {w : Int} {x : Nat} (h1 : 1 ≤ w) (h2 : w ≤ 128) (hx : x < 340282366920938463463374607431768211456) : vec_Cut w (wp x) = some ((vw w (x % 2 ^ w.toNat), 0, ()), ()) := by
  unfold vec_Cut
  have hpa : ((wp x).1, (wp x).2.1, ()) = wp x := rfl
  have h128 : 2 ^ min w.toNat 128 - 1 < 340282366920938463463374607431768211456 := by
    have := Nat.pow_le_pow_right (n := 2) (by omega) (Nat.min_le_right w.toNat 128)
    rw [show 2 ^ 128 = 340282366920938463463374607431768211456 from rfl] at this
    omega
  rw [width_ok, Option.bind_some, decide_eq_true (show 1 ≤ w ∧ w ≤ 128 from ⟨h1, h2⟩), Bool.not_true, cond_false, word_Ones_ok, Option.bind_some, hpa]
  dsimp only
  rw [word_And_ok hx h128, Option.bind_some]
  dsimp only
  rw [vec_row_ok, Option.bind_some, Nat.min_eq_left (show w.toNat ≤ 128 by omega), Nat.and_two_pow_sub_one_eq_mod]

theorem may_lt {w : Int} {x : Nat} (h : may w x = true) : x < 2 ^ w.toNat := by
  have hm := of_decide_eq_true h
  exact Nat.lt_of_lt_of_le (bitLen_spec x).1 (Nat.pow_le_pow_right (by omega) (by omega))

theorem halves_wp {y : Nat} (hy : y < 340282366920938463463374607431768211456) : ref01_Halves (rowB (BitVec.ofNat 128 y)) = some (((wp y).1, (wp y).2.1, ()), ()) := by
  have h := ref01_Halves_ok (hi := y / 18446744073709551616) (lo := y % 18446744073709551616) (by omega) (Nat.mod_lt _ (by omega))
  have e : wd (y / 18446744073709551616) (y % 18446744073709551616) = BitVec.ofNat 128 y := by
    unfold wd
    congr 1
    omega
  rw [e] at h
  exact h

theorem ref02_Of_ok {n X : Nat} (hn : n ≤ 128) : ref02_Of (lrow n X.testBit) = some ((vw (n : Int) (X % 2 ^ n), ()), ()) := by
  unfold ref02_Of
  rw [← bld_zero X.testBit]
  refine loop_up (fun i => (((lrow n X.testBit, (i : Int), ()), (0, 0, 0, ()), bld X.testBit i, ()) : ((List Bool) × Int × Unit) × ((Int × Int × Int × Unit) × (List Bool) × Unit))) n ?_ ?_ 0 (by omega)
  · intro i hi
    dsimp only
    unfold ref02_Of_s0
    simp only [gsome, lrow_len]
    rw [decide_eq_true (show (i : Int) < (n : Int) by omega), decide_eq_true (show (i : Int) < 128 by omega)]
    simp only [cond_true]
    rw [lrow_rd _ hi, Option.bind_some, ck_nat (show i < 128 by omega), bld_st _ (show i < 128 by omega) rfl, Option.bind_some, wi64 (by omega)]
  · dsimp only
    unfold ref02_Of_s0
    simp only [gsome, lrow_len]
    rw [decide_eq_false (show ¬ (n : Int) < (n : Int) by omega)]
    simp only [cond_false]
    have hb : bld X.testBit n = rowB (BitVec.ofNat 128 (X % 2 ^ n)) := by
      rw [row_w]
      exact row_ext fun i hi => by rw [Nat.testBit_mod_two_pow]
    have hlt : X % 2 ^ n < 340282366920938463463374607431768211456 := Nat.lt_of_lt_of_le (Nat.mod_lt _ (Nat.two_pow_pos n)) (by rw [show 340282366920938463463374607431768211456 = 2 ^ 128 from rfl]; exact Nat.pow_le_pow_right (by omega) hn)
    rw [hb, halves_wp hlt]
    rfl

theorem subL_lrow {α : Type} {n lo k : Nat} (f : Nat → α) (h : lo + k ≤ n) : subL (lrow n f) (lo : Int) ((lo + k : Nat) : Int) = some (lrow k fun j => f (lo + j)) := by
  unfold subL
  rw [lrow_len, if_pos (by omega), Int.toNat_natCast, Int.toNat_natCast]
  congr 1
  apply List.ext_getElem?
  intro j
  rw [List.getElem?_drop, List.getElem?_take]
  by_cases hj : j < k
  · rw [if_pos (by omega), lrow_get _ (by omega), lrow_get _ hj]
  · rw [if_neg (by omega), List.getElem?_eq_none (by rw [lrow_len]; omega)]

/-! ### a part of a vector -/
theorem slices {w : Int} {x : Nat} {hi lo : Int} (hx : x < 340282366920938463463374607431768211456) : ∃ v c, vec_Slice (vw w x) hi lo = some ((v, c, ()), ()) ∧ ref02_Slice (vw w x) hi lo = some ((v, c, ()), ()) := by
  have hpv : ((vw w x).1, (vw w x).2.1, (vw w x).2.2.1, ()) = vw w x := rfl
  unfold vec_Slice ref02_Slice
  rw [hpv, vec_May_ok hx, ref02_May_ok hx, Option.bind_some, Option.bind_some]
  dsimp only
  cases hm : may w x
  · exact ⟨_, _, rfl, rfl⟩
  · obtain ⟨h1, h2, h3⟩ := may_of hm
    simp only [Bool.not_true, cond_false, gsome]
    rw [show (vw w x).1 = w from rfl]
    by_cases h : 0 ≤ lo ∧ lo ≤ hi ∧ hi < w
    · obtain ⟨l, rfl⟩ : ∃ l : Nat, lo = l := ⟨lo.toNat, by omega⟩
      obtain ⟨k, rfl⟩ : ∃ k : Nat, hi = ((l + k : Nat) : Int) := ⟨hi.toNat - l, by omega⟩
      obtain ⟨W, rfl⟩ : ∃ W : Nat, w = W := ⟨w.toNat, by omega⟩
      rw [decide_eq_false (show ¬ (l : Int) < 0 by omega), decide_eq_false (show ¬ (l : Int) > ((l + k : Nat) : Int) by omega)]
      simp only [Bool.not_false, cond_true, cond_false]
      rw [decide_eq_false (show ¬ ((l + k : Nat) : Int) ≥ (W : Int) by omega), cond_false, vec_Word_ok, Option.bind_some, ref02_Bits_ok hx, Option.bind_some]
      dsimp only
      have hmv : moved x (-(l : Int)) = x / 2 ^ l := by
        unfold moved
        by_cases h0 : l = 0
        · subst h0
          rw [if_pos (by omega), if_pos (by omega), show (-((0 : Nat) : Int)).toNat = 0 from rfl, Nat.pow_zero, Nat.mul_one, Nat.div_one, Nat.mod_eq_of_lt hx]
        · rw [if_neg (by omega), show (-(-(l : Int))).toNat = l by omega]
      rw [word_Shr_ok hx, Option.bind_some, hmv]
      dsimp only
      have hlt : x / 2 ^ l < 340282366920938463463374607431768211456 := Nat.lt_of_le_of_lt (Nat.div_le_self _ _) hx
      rw [show IntKind.i64.wrap (IntKind.i64.wrap (((l + k : Nat) : Int) - (l : Int)) + 1) = ((k + 1 : Nat) : Int) by rw [wrap_i64 (n := ((l + k : Nat) : Int) - (l : Int)) (by omega) (by omega), wrap_i64 (by omega) (by omega)]; omega,
        show IntKind.i64.wrap (((l + k : Nat) : Int) + 1) = ((l + (k + 1) : Nat) : Int) by rw [wrap_i64 (by omega) (by omega)]; omega,
        vec_Cut_ok (by omega) (by omega) hlt, Option.bind_some, show (min (W : Int) 128).toNat = W by omega, subL_lrow _ (by omega), Option.bind_some, Int.toNat_natCast]
      have he : (lrow (k + 1) fun j => x.testBit (l + j)) = lrow (k + 1) (x / 2 ^ l).testBit := lrow_ext fun j _ => by rw [Nat.testBit_div_two_pow, Nat.add_comm j l]
      rw [he, ref02_Of_ok (by omega)]
      exact ⟨_, _, rfl, rfl⟩
    · have hc : (bif (bif decide (lo < 0) then true else (bif !decide (lo < 0) then decide (lo > hi) else false)) then true else (bif !(bif decide (lo < 0) then true else (bif !decide (lo < 0) then decide (lo > hi) else false)) then decide (hi ≥ (bif !(bif decide (lo < 0) then true else (bif !decide (lo < 0) then decide (lo > hi) else false)) then w else 0)) else false)) = true := by
        by_cases h4 : lo < 0
        · rw [decide_eq_true h4]; rfl
        · rw [decide_eq_false h4]
          by_cases h5 : lo > hi
          · rw [decide_eq_true h5]; rfl
          · rw [decide_eq_false h5]
            simp only [Bool.not_false, cond_true, cond_false]
            rw [decide_eq_true (by omega)]
      rw [hc]
      exact ⟨_, _, rfl, rfl⟩

end Go.L

namespace Go.L
open Go Go.Pv
set_option maxRecDepth 100000

theorem vec_New_ok {w : Int} {x : Nat} (h1 : 1 ≤ w) (h2 : w ≤ 128) (hx : x < 340282366920938463463374607431768211456) : vec_New w (wp x).1 (wp x).2.1 = some (((bif decide ((bitLen x : Int) ≤ w) then (vw w x, 0, ()) else ((0, 0, 0, ()), 7, ())) : (Int × Int × Int × Unit) × Int × Unit), ()) := by
  unfold vec_New
  rw [width_ok, Option.bind_some, decide_eq_true (show 1 ≤ w ∧ w ≤ 128 from ⟨h1, h2⟩)]
  simp only [Bool.not_true, cond_false]
  rw [show ((w, (wp x).1, (wp x).2.1, ()) : Int × Int × Int × Unit) = vw w x from rfl, vec_May_ok hx, Option.bind_some]
  have : may w x = decide ((bitLen x : Int) ≤ w) := decide_eq_decide.2 ⟨fun h => h.2, fun h => ⟨⟨h1, h2⟩, h⟩⟩
  rw [this]
  cases decide ((bitLen x : Int) ≤ w) <;> rfl

end Go.L

namespace Go.L
open Go Go.Pv
set_option maxRecDepth 100000

/-- where a reading stands: how many bytes are taken, the first fault -/
abbrev Sta := Nat × Flt
def fE : Flt → Int
  | none => 0
  | some f => f.1
def fW : Flt → Int
  | none => 0
  | some f => f.2.1
/-- a fault is one -/
def okF (f : Flt) : Prop := ∀ x, f = some x → x.1 ≠ 0
structure okB (b : List Int) : Prop where
  u8 : ∀ v ∈ b, inR .u8 v = true
  len : b.length ≤ 100000

theorem okF_none : okF none := fun _ h => by cases h
theorem okF_some {e w : Int} (h : e ≠ 0) : okF (some (e, w, ())) := fun x hx => by obtain rfl := Option.some.inj hx; exact h

theorem rdNum_ok {b : List Int} {s : Sta} {k : Nat} {most : Int} (ha : s.1 ≤ b.length) (hf : okF s.2) : (rdNum b s.1 s.2 k most).2.1 ≤ b.length ∧ okF (rdNum b s.1 s.2 k most).2.2 := by
  obtain ⟨a, f⟩ := s
  unfold rdNum
  cases f with
  | some f => exact ⟨ha, hf⟩
  | none =>
    dsimp only
    split
    · split
      · exact ⟨ha, okF_some (by omega)⟩
      · exact ⟨by omega, okF_none⟩
    · exact ⟨ha, okF_some (by omega)⟩

theorem mem_part {b : List Int} {n k : Nat} (h : ∀ v ∈ b, inR .u8 v = true) : ∀ v ∈ (b.drop n).take k, inR .u8 v = true := fun v hv => h v (List.mem_of_mem_drop (List.mem_of_mem_take hv))

theorem sub_lo {l : List Int} {k : Nat} (h : k ≤ l.length) : subL l 0 (k : Int) = some (l.take k) := by
  unfold subL
  rw [if_pos ⟨by omega, by omega, by omega⟩, Int.toNat_natCast]
  rfl

/-- reading a vector -/
def rdVec (b : List Int) (s : Sta) : (Int × Int × Int × Unit) × Sta :=
  match s.2 with
  | some f => ((0, 0, 0, ()), s.1, some f)
  | none => if s.1 + 1 ≤ b.length then
      (let w := beN ((b.drop s.1).take 1)
       if w < 1 ∨ 128 < w then ((0, 0, 0, ()), s.1, some (9, (s.1 : Int), ()))
       else if s.1 + 1 + (w + 7) / 8 ≤ b.length then
        (let x := beN ((b.drop (s.1 + 1)).take ((w + 7) / 8))
         if x < 2 ^ w then (vw (w : Int) x, s.1 + 1 + (w + 7) / 8, none) else ((0, 0, 0, ()), s.1, some (4, (s.1 : Int), ())))
       else ((0, 0, 0, ()), s.1, some (3, (s.1 : Int), ())))
    else ((0, 0, 0, ()), s.1, some (3, (s.1 : Int), ()))

end Go.L

namespace Go.L
open Go Go.Pv
set_option maxRecDepth 100000

theorem rdI_get {α : Type} {l : List α} {i : Nat} (h : i < l.length) : rdI l (i : Int) = some l[i] := by
  unfold rdI
  rw [if_pos (by omega), Int.toNat_natCast, List.getElem?_eq_getElem h]

end Go.L

namespace Go.L
open Go Go.Pv
set_option maxRecDepth 100000

theorem byte_rd {b : List Int} {s : Sta} {most : Int} (hb : okB b) (ha : s.1 ≤ b.length) : wire_Reader_Byte_e57 (rd b (s.1 : Int) s.2) most = some (((rdNum b s.1 s.2 1 most).1, ()), rd b ((rdNum b s.1 s.2 1 most).2.1 : Int) (rdNum b s.1 s.2 1 most).2.2, ()) := by
  have hl := hb.len
  have h : wire_Reader_number_28a (rd b (s.1 : Int) s.2) 1 most = _ := number_ok (k := 1) (by omega) hb.u8 ha (by omega)
  unfold wire_Reader_Byte_e57
  show (wire_Reader_number_28a (rd b (s.1 : Int) s.2) 1 most).bind _ = _
  rw [h]; rfl

theorem two_rd {b : List Int} {s : Sta} {most : Int} (hb : okB b) (ha : s.1 ≤ b.length) : wire_Reader_Two_e57 (rd b (s.1 : Int) s.2) most = some (((rdNum b s.1 s.2 2 most).1, ()), rd b ((rdNum b s.1 s.2 2 most).2.1 : Int) (rdNum b s.1 s.2 2 most).2.2, ()) := by
  have hl := hb.len
  have h : wire_Reader_number_28a (rd b (s.1 : Int) s.2) 2 most = _ := number_ok (k := 2) (by omega) hb.u8 ha (by omega)
  unfold wire_Reader_Two_e57
  show (wire_Reader_number_28a (rd b (s.1 : Int) s.2) 2 most).bind _ = _
  rw [h]; rfl

theorem back_none (b : List Int) (a : Int) (e p : Int) (he : e ≠ 0) : wire_Reader_back_28a (rd b a none) e p = some ((), rd b p (some (e, p, ())), ()) := by
  unfold wire_Reader_back_28a
  simp only [rd, Option.isNone_none, cond_true, fail_ba6, decide_eq_false he, Bool.not_false, Bool.and_self, Option.bind_some]

theorem one_lt {b : List Int} (hb : okB b) (n : Nat) : beN ((b.drop n).take 1) < 256 := by
  have := beN_lt _ (mem_part (n := n) (k := 1) hb.u8)
  refine Nat.lt_of_lt_of_le this ?_
  have : ((b.drop n).take 1).length ≤ 1 := by rw [List.length_take]; omega
  calc 256 ^ ((b.drop n).take 1).length ≤ 256 ^ 1 := Nat.pow_le_pow_right (by omega) this
    _ = 256 := rfl

theorem rdNum1 {b : List Int} (hb : okB b) {a : Nat} (h : a + 1 ≤ b.length) : rdNum b a none 1 255 = ((beN ((b.drop a).take 1) : Int), a + 1, none) := by
  unfold rdNum
  dsimp only
  have := one_lt hb a
  rw [if_pos h, if_neg (by omega)]

theorem rdNum0 {b : List Int} {a k : Nat} {m : Int} (h : ¬ a + k ≤ b.length) : rdNum b a none k m = (0, a, some (3, (a : Int), ())) := by
  unfold rdNum
  dsimp only
  rw [if_neg h]

theorem rdVec_st {b : List Int} {s : Sta} (ha : s.1 ≤ b.length) (hf : okF s.2) : (rdVec b s).2.1 ≤ b.length ∧ okF (rdVec b s).2.2 := by
  obtain ⟨a, f⟩ := s
  unfold rdVec
  cases f with
  | some f => exact ⟨ha, hf⟩
  | none =>
    dsimp only at ha ⊢
    by_cases h1 : a + 1 ≤ b.length
    · rw [if_pos h1]
      generalize beN ((b.drop a).take 1) = w
      by_cases h2 : w < 1 ∨ 128 < w
      · rw [if_pos h2]; exact ⟨ha, okF_some (by omega)⟩
      · rw [if_neg h2]
        by_cases h3 : a + 1 + (w + 7) / 8 ≤ b.length
        · rw [if_pos h3]
          generalize beN ((b.drop (a + 1)).take ((w + 7) / 8)) = x
          by_cases h4 : x < 2 ^ w
          · rw [if_pos h4]; exact ⟨h3, okF_none⟩
          · rw [if_neg h4]; exact ⟨ha, okF_some (by omega)⟩
        · rw [if_neg h3]; exact ⟨ha, okF_some (by omega)⟩
    · rw [if_neg h1]; exact ⟨ha, okF_some (by omega)⟩

theorem room_ok {w : Nat} (h : w ≤ 1000) : wire_room (w : Int) = some (((((w + 7) / 8 : Nat) : Int), ()), ()) := by
  unfold wire_room
  have e1 : IntKind.i64.wrap ((w : Int) + 8) = ((w + 8 : Nat) : Int) := by rw [wrap_i64 (by omega) (by omega)]; omega
  have e2 : IntKind.i64.wrap (((w + 8 : Nat) : Int) - 1) = ((w + 7 : Nat) : Int) := by rw [wrap_i64 (by omega) (by omega)]; omega
  have e3 : ((w + 7 : Nat) : Int).tdiv 8 = (((w + 7) / 8 : Nat) : Int) := rfl
  rw [e1, e2, e3, wrap_i64 (by omega) (by omega)]

/-- a byte behind a word -/
theorem word_byte {x v : Nat} (hx : x < 1329227995784915872903807060280344576) (hv : v < 256) : (word_Shl ((wp x).1, (wp x).2.1, ()) 8).bind (fun r_12 => (word_Or r_12.1.1 (0, IntKind.u64.wrap (v : Int), ())).bind fun r_14 => some r_14.1.1) = some (wp (x * 256 + v)) := by
  have h1 : word_Shl ((wp x).1, (wp x).2.1, ()) 8 = some ((wp (moved x 8), ()), ()) := word_Shl_ok (a := x) (n := 8) (by omega)
  have h2 : moved x 8 = x * 256 := by
    unfold moved
    simp
    omega
  have h3 : ((0, IntKind.u64.wrap (v : Int), ()) : Int × Int × Unit) = wp v := by
    rw [wu64 (by omega)]
    unfold wp
    rw [Nat.div_eq_of_lt (by omega), Nat.mod_eq_of_lt (by omega)]
    rfl
  rw [h1, Option.bind_some, h2, h3]
  dsimp only
  rw [word_Or_ok (by omega) (by omega), Option.bind_some]
  have := Nat.shiftLeft_add_eq_or_of_lt (i := 8) (show v < 2 ^ 8 by omega) x
  rw [Nat.shiftLeft_eq] at this
  have h4 : x * 256 ||| v = x * 256 + v := this.symm
  rw [h4]

theorem vec_loop {b : List Int} {w : Nat} {a A : Nat} {l : List Int} (h1 : 1 ≤ w) (h2 : w ≤ 128) (hu : ∀ v ∈ l, inR .u8 v = true) (hl : l.length ≤ 16) :
    loopR (fun (z : (Int × Int × (List Int) × Int × Int × Unit) × ((Int × Int × Int × Unit) × (Int × Int × Unit) × Rdr × Unit)) => wire_Reader_Vec_59d_s0 z.1.1 z.1.2.1 z.1.2.2.1 z.1.2.2.2.1 z.1.2.2.2.2.1 z.2.1 z.2.2.1 z.2.2.2.1) (((a : Int), (w : Int), l, (l.length : Int), 0, ()), (0, 0, 0, ()), (0, 0, ()), rd b (A : Int) none, ()) =
      some (((if beN l < 2 ^ w then vw (w : Int) (beN l) else (0, 0, 0, ())), ()), (if beN l < 2 ^ w then rd b (A : Int) none else rd b (a : Int) (some (4, (a : Int), ()))), ()) := by
  have key := loop_up (f := fun (z : (Int × Int × (List Int) × Int × Int × Unit) × ((Int × Int × Int × Unit) × (Int × Int × Unit) × Rdr × Unit)) => wire_Reader_Vec_59d_s0 z.1.1 z.1.2.1 z.1.2.2.1 z.1.2.2.2.1 z.1.2.2.2.2.1 z.2.1 z.2.2.1 z.2.2.2.1)
    (fun i => (((a : Int), (w : Int), l, (l.length : Int), (i : Int), ()), (0, 0, 0, ()), wp (beN (l.take i)), rd b (A : Int) none, ())) l.length (r := (((if beN l < 2 ^ w then vw (w : Int) (beN l) else (0, 0, 0, ())), ()), (if beN l < 2 ^ w then rd b (A : Int) none else rd b (a : Int) (some (4, (a : Int), ()))), ()))
    (fun i hi => by
      dsimp only
      unfold wire_Reader_Vec_59d_s0
      have hv := u8_of (hu l[i] (List.getElem_mem hi))
      have hlt := beN_lt (l.take i) fun v hv => hu v (List.mem_of_mem_take hv)
      have hp : 256 ^ (l.take i).length ≤ 256 ^ 15 := Nat.pow_le_pow_right (by omega) (by rw [List.length_take]; omega)
      have ht : l.take (i + 1) = l.take i ++ [l[i]] := by rw [List.take_add_one, List.getElem?_eq_getElem hi]; rfl
      have hvv : ((l[i].toNat : Nat) : Int) = l[i] := by omega
      have hw := word_byte (x := beN (l.take i)) (v := l[i].toNat) (by omega) (by omega)
      rw [hvv] at hw
      rw [dlt hi, cond_true, rdI_get hi, Option.bind_some, ht, beN_snoc, wi64 (by omega)]
      generalize wp (beN (l.take i) * 256 + l[i].toNat) = W at hw
      cases hs : word_Shl ((wp (beN (l.take i))).1, (wp (beN (l.take i))).2.1, ()) 8 with
      | none => rw [hs] at hw; cases hw
      | some r12 =>
        rw [hs, Option.bind_some] at hw
        rw [Option.bind_some]
        cases ho : word_Or r12.1.1 (0, IntKind.u64.wrap l[i], ()) with
        | none => rw [ho] at hw; cases hw
        | some r14 =>
          rw [ho, Option.bind_some] at hw
          have := Option.some.inj hw
          rw [Option.bind_some, this])
    (by
      dsimp only
      unfold wire_Reader_Vec_59d_s0
      have hlt := beN_lt l hu
      have hp : 256 ^ l.length ≤ 256 ^ 16 := Nat.pow_le_pow_right (by omega) hl
      rw [dge, cond_false, List.take_length, vec_New_ok (by omega) (by omega) (by omega), Option.bind_some]
      by_cases hx : beN l < 2 ^ w
      · have hbl : (bitLen (beN l) : Int) ≤ (w : Int) := by
          have := bitLen_le hx
          omega
        rw [decide_eq_true hbl, if_pos hx, if_pos hx]
        rfl
      · have hbl : ¬ (bitLen (beN l) : Int) ≤ (w : Int) := by
          intro h
          refine hx ?_
          have hm : may (w : Int) (beN l) = true := decide_eq_true ⟨⟨by omega, by omega⟩, h⟩
          have := may_lt hm
          simpa using this
        rw [decide_eq_false hbl, if_neg hx, if_neg hx]
        have hbk : wire_Reader_back_28a (((rd b (A : Int) none).1.1, (rd b (A : Int) none).1.2.1, (rd b (A : Int) none).1.2.2.1, ()), ()) 4 (a : Int) = _ := back_none b (A : Int) 4 (a : Int) (by omega)
        simp only [cond_false]
        rw [hbk]
        rfl) 0 (Nat.zero_le _)
  refine Eq.trans ?_ key
  rw [List.take_zero]
  rfl

theorem vec_rd {b : List Int} {s : Sta} (hb : okB b) (ha : s.1 ≤ b.length) : wire_Reader_Vec_59d (rd b (s.1 : Int) s.2) = some (((rdVec b s).1, ()), rd b ((rdVec b s).2.1 : Int) (rdVec b s).2.2, ()) := by
  have hlen := hb.len
  obtain ⟨a, f⟩ := s
  have h1 : wire_Reader_Byte_e57 (((rd b (a : Int) f).1.1, (rd b (a : Int) f).1.2.1, (rd b (a : Int) f).1.2.2.1, ()), ()) 255 = _ := byte_rd (s := (a, f)) hb ha
  unfold wire_Reader_Vec_59d
  rw [h1, Option.bind_some]
  dsimp only at ha ⊢
  unfold rdVec
  cases f with
  | some f =>
    have : rdNum b a (some f) 1 255 = (0, a, some f) := rfl
    rw [this]
    rfl
  | none =>
    dsimp only
    by_cases hA : a + 1 ≤ b.length
    · rw [rdNum1 hb hA, if_pos hA]
      have hw := one_lt hb a
      generalize beN ((b.drop a).take 1) = w at hw
      dsimp only
      by_cases hbad : w < 1 ∨ 128 < w
      · rw [if_pos hbad]
        have hc : (bif decide ((w : Int) < 1) then true else bif !decide ((w : Int) < 1) then decide ((w : Int) > 128) else false) = true := by
          rcases hbad with h | h
          · rw [decide_eq_true (by omega)]; rfl
          · rw [decide_eq_false (by omega), decide_eq_true (by omega)]; rfl
        simp only [gsome, hc, cond_true]
        rw [back_none b _ 9 _ (by omega)]
        rfl
      · rw [if_neg hbad]
        have hc : (bif decide ((w : Int) < 1) then true else bif !decide ((w : Int) < 1) then decide ((w : Int) > 128) else false) = false := by
          rw [decide_eq_false (by omega), decide_eq_false (by omega)]; rfl
        simp only [gsome, hc, cond_false]
        rw [room_ok (by omega), Option.bind_some]
        dsimp only
        have ht := take_c4f (b := b) (at_ := a + 1) (k := (w + 7) / 8) none (by omega) hA
        show (wire_cursor_take_c4f (b, ((a + 1 : Nat) : Int), none, ()) (((w + 7) / 8 : Nat) : Int)).bind _ = _
        rw [ht, Option.bind_some]
        by_cases hk : a + 1 + (w + 7) / 8 ≤ b.length
        · rw [if_pos hk, decide_eq_true hk]
          simp only [Option.isNone_none, Bool.and_self, cond_true, Bool.not_true, cond_false]
          have hkl : ((b.drop (a + 1)).take ((w + 7) / 8)).length ≤ 16 := by rw [List.length_take]; omega
          have hv := vec_loop (b := b) (w := w) (a := a) (A := a + 1 + (w + 7) / 8) (l := (b.drop (a + 1)).take ((w + 7) / 8)) (by omega) (by omega) (mem_part hb.u8) hkl
          refine Eq.trans hv ?_
          split <;> rfl
        · rw [if_neg hk, decide_eq_false hk]
          simp only [Bool.and_false, cond_false, Bool.not_false, cond_true]
          have hbk : wire_Reader_back_28a ((b, ((a + 1 : Nat) : Int), none, ()), ()) 3 (a : Int) = _ := back_none b ((a + 1 : Nat) : Int) 3 (a : Int) (by omega)
          show (wire_Reader_back_28a ((b, ((a + 1 : Nat) : Int), none, ()), ()) 3 (a : Int)).bind _ = _
          rw [hbk]
          rfl
    · rw [rdNum0 hA, if_neg hA]
      rfl

end Go.L

namespace Go.L
open Go Go.Pv
set_option maxRecDepth 100000

/-- how many things a list has -/
def rdCount (b : List Int) (s : Sta) (m : Int) : Int × Sta :=
  let r := rdNum b s.1 s.2 1 255
  match s.2, r.2.2 with
  | none, none => if r.1 > m then (0, s.1, some (2, (s.1 : Int), ())) else r
  | _, _ => r

theorem rdCount_st {b : List Int} {s : Sta} {m : Int} (ha : s.1 ≤ b.length) (hf : okF s.2) : (rdCount b s m).2.1 ≤ b.length ∧ okF (rdCount b s m).2.2 := by
  have h := rdNum_ok (b := b) (s := s) (k := 1) (most := 255) ha hf
  unfold rdCount
  dsimp only
  split
  · split
    · exact ⟨ha, okF_some (by omega)⟩
    · exact h
  · exact h

end Go.L

namespace Go.L
open Go Go.Pv
set_option maxRecDepth 100000

/-- a reading that stands within the bytes -/
def okT (b : List Int) (s : Sta) : Prop := s.1 ≤ b.length ∧ okF s.2

theorem okT.num {b : List Int} {s : Sta} {k : Nat} {m : Int} (h : okT b s) : okT b (rdNum b s.1 s.2 k m).2 := rdNum_ok h.1 h.2
theorem okT.vec {b : List Int} {s : Sta} (h : okT b s) : okT b (rdVec b s).2 := rdVec_st h.1 h.2
theorem okT.count {b : List Int} {s : Sta} {m : Int} (h : okT b s) : okT b (rdCount b s m).2 := rdCount_st h.1 h.2

/-- the fault at the end of a reading -/
def endF (b : List Int) (s : Sta) : Flt :=
  match s.2 with
  | some f => some f
  | none => if s.1 < b.length then some (2, (s.1 : Int), ()) else none
def endS (b : List Int) (s : Sta) : Flt ⊕ Unit :=
  match endF b s with
  | some f => .inl (some f)
  | none => .inr ()

theorem end_rd {b : List Int} {s : Sta} (hb : okB b) (h : okT b s) : wire_Reader_End_59d (rd b (s.1 : Int) s.2) = some ((endS b s, ()), rd b (s.1 : Int) s.2, ()) := by
  have hlen := hb.len
  obtain ⟨a, f⟩ := s
  have ha := h.1
  dsimp only at ha
  unfold wire_Reader_End_59d endS endF
  cases f with
  | some f => rfl
  | none =>
    unfold wire_Reader_Left_59d
    have e1 : IntKind.i64.wrap ((b.length : Int) - (a : Int)) = (b.length : Int) - (a : Int) := wrap_i64 (by omega) (by omega)
    simp only [Option.isNone_none, Bool.not_true, cond_false, Option.bind_some, e1]
    by_cases hl : a < b.length
    · rw [decide_eq_true (show (b.length : Int) - (a : Int) > 0 by omega), if_pos hl]
      rfl
    · rw [decide_eq_false (show ¬ (b.length : Int) - (a : Int) > 0 by omega), if_neg hl]
      rfl

theorem why_end {b : List Int} {s : Sta} : wire_Why_8d8 (endS b s) = some ((fE (endF b s), fW (endF b s), ()), ()) := by
  unfold endS
  cases endF b s with
  | none => rfl
  | some f => rfl

end Go.L

namespace Go.L
open Go Go.Pv
set_option maxRecDepth 100000

theorem mod_succ (x i : Nat) : x % 2 ^ (i + 1) = x % 2 ^ i + (bif x.testBit i then 2 ^ i else 0) := by
  have h2 : x.testBit i = decide (x / 2 ^ i % 2 = 1) := Nat.testBit_eq_decide_div_mod_eq
  rw [h2, Nat.pow_succ, Nat.mod_mul]
  by_cases h : x / 2 ^ i % 2 = 1
  · rw [decide_eq_true h, h, cond_true, Nat.mul_one]
  · rw [decide_eq_false h, show x / 2 ^ i % 2 = 0 by omega, cond_false, Nat.mul_zero]

/-- the loop that compares, lowest bits first -/
theorem two_s0 {op : List Int} {W x y : Nat} (hW : W ≤ 128) {v : Int × Int × Int × Unit} {r : ((Int × Int × Int × Unit) × Int × Unit) × Unit}
    (h : ref02_Two_s0 op (lrow W x.testBit) (lrow W y.testBit) (decide (x % 2 ^ W < y % 2 ^ W)) (decide (x % 2 ^ W = y % 2 ^ W)) (W : Int) v = some (.inr r)) :
    loopR (fun (z : ((List Int) × (List Bool) × (List Bool) × Bool × Bool × Int × Unit) × ((Int × Int × Int × Unit) × Unit)) => ref02_Two_s0 z.1.1 z.1.2.1 z.1.2.2.1 z.1.2.2.2.1 z.1.2.2.2.2.1 z.1.2.2.2.2.2.1 z.2.1) ((op, lrow W x.testBit, lrow W y.testBit, false, true, 0, ()), v, ()) = some r := by
  have key := loop_up (f := fun (z : ((List Int) × (List Bool) × (List Bool) × Bool × Bool × Int × Unit) × ((Int × Int × Int × Unit) × Unit)) => ref02_Two_s0 z.1.1 z.1.2.1 z.1.2.2.1 z.1.2.2.2.1 z.1.2.2.2.2.1 z.1.2.2.2.2.2.1 z.2.1) (fun i => ((op, lrow W x.testBit, lrow W y.testBit, decide (x % 2 ^ i < y % 2 ^ i), decide (x % 2 ^ i = y % 2 ^ i), (i : Int), ()), v, ())) W (r := r) ?_ h 0 (by omega)
  · rw [Nat.pow_zero, Nat.mod_one, Nat.mod_one] at key
    exact key
  · intro i hi
    dsimp only
    unfold ref02_Two_s0
    rw [lrow_len, lrow_len, decide_eq_true (show (i : Int) < (W : Int) by omega), cond_true, ck_nat hi, lrow_rd _ hi, Option.bind_some, ck_nat hi, lrow_rd _ hi, Option.bind_some, mod_succ x i, mod_succ y i, ck_nat hi, lrow_rd _ hi, Option.bind_some, wi64 (by omega)]
    have hx := Nat.mod_lt x (Nat.two_pow_pos i)
    have hy := Nat.mod_lt y (Nat.two_pow_pos i)
    generalize x % 2 ^ i = p at hx ⊢
    generalize y % 2 ^ i = q at hy ⊢
    generalize 2 ^ i = m at hx hy ⊢
    cases x.testBit i <;> cases y.testBit i
    · rfl
    · simp only [decide_eq_false (show ¬ false = true by decide), Bool.not_false, cond_true, cond_false]
      rw [decide_eq_true (show p + 0 < q + m by omega), decide_eq_false (show ¬ p + 0 = q + m by omega)]
    · simp only [decide_eq_false (show ¬ true = false by decide), Bool.not_false, cond_true, cond_false]
      rw [decide_eq_false (show ¬ p + m < q + 0 by omega), decide_eq_false (show ¬ p + m = q + 0 by omega)]
    · simp only [decide_true, Bool.not_true, cond_true, cond_false]
      rw [show decide (p + m < q + m) = decide (p < q) from decide_eq_decide.2 (by omega), show decide (p + m = q + m) = decide (p = q) from decide_eq_decide.2 (by omega)]

/-- one bit as a vector -/
theorem of_one (b : Bool) : ref02_Of [b] = some ((vw 1 (bif b then 1 else 0), ()), ()) := by
  have h := ref02_Of_ok (n := 1) (X := bif b then 1 else 0) (by omega)
  have e : lrow 1 (bif b then 1 else 0 : Nat).testBit = [b] := by cases b <;> rfl
  rw [e] at h
  rw [h]
  cases b <;> rfl

theorem truth_ok (b : Bool) : vec_Truth b = some ((vw 1 (bif b then 1 else 0), ()), ()) := by cases b <;> rfl

/-- what two vectors of one width are made to -/
def both (w u : Int) (x y : Nat) (r : (Int × Int × Int × Unit) × Int × Unit) : (Int × Int × Int × Unit) × Int × Unit :=
  bif may w x && may u y then (bif decide (w = u) then r else ((0, 0, 0, ()), 9, ())) else ((0, 0, 0, ()), 1, ())

theorem two_and_ok {w u : Int} {x y : Nat} (hx : x < 340282366920938463463374607431768211456) (hy : y < 340282366920938463463374607431768211456) : vec_two_d65 (vw w x) (vw u y) = some ((both w u x y (vw w (x &&& y), 0, ())), ()) := by
  have hpv : ((vw w x).1, (vw w x).2.1, (vw w x).2.2.1, ()) = vw w x := rfl
  have hpu : ((vw u y).1, (vw u y).2.1, (vw u y).2.2.1, ()) = vw u y := rfl
  unfold vec_two_d65 both
  rw [hpv, hpu, vec_May_ok hx, Option.bind_some]
  dsimp only
  cases hm : may w x
  · simp only [Bool.not_false, Bool.not_true, gsome, gfalse, cond_true, cond_false, Bool.false_and]
  · simp only [Bool.not_true, Bool.not_false, gsome, gtrue, cond_true, cond_false, Bool.true_and]
    rw [vec_May_ok hy, Option.bind_some]
    dsimp only
    cases hm2 : may u y
    · rfl
    · simp only [Bool.not_true, cond_false, cond_true]
      rw [show (vw w x).1 = w from rfl, show (vw u y).1 = u from rfl]
      by_cases h : w = u
      · subst h
        obtain ⟨h1, h2, h3⟩ := may_of hm
        have hpx : ((wp x).1, (wp x).2.1, ()) = wp x := rfl
        have hpy : ((wp y).1, (wp y).2.1, ()) = wp y := rfl
        rw [decide_eq_true rfl, Bool.not_true, cond_false, cond_true, vec_Word_ok, Option.bind_some, vec_Word_ok, Option.bind_some]
        dsimp only
        have hl : x &&& y < 2 ^ w.toNat := Nat.and_lt_two_pow x (may_lt hm2)
        rw [word_And_ok hx hy, Option.bind_some]
        dsimp only
        rw [vec_Cut_ok h1 h2 (Nat.and_lt_two_pow (n := 128) x hy), Option.bind_some, Nat.mod_eq_of_lt hl]
      · rw [decide_eq_false h]
        rfl

theorem vec_Less_ok {w u : Int} {x y : Nat} (hx : x < 340282366920938463463374607431768211456) (hy : y < 340282366920938463463374607431768211456) : vec_Less (vw w x) (vw u y) = some ((both w u x y (vw 1 (bif decide (x < y) then 1 else 0), 0, ())), ()) := by
  have hpv : ((vw w x).1, (vw w x).2.1, (vw w x).2.2.1, ()) = vw w x := rfl
  have hpu : ((vw u y).1, (vw u y).2.1, (vw u y).2.2.1, ()) = vw u y := rfl
  have hpx : ((wp x).1, (wp x).2.1, ()) = wp x := rfl
  have hpy : ((wp y).1, (wp y).2.1, ()) = wp y := rfl
  unfold vec_Less vec_told_44b
  rw [hpv, hpu, two_and_ok hx hy, Option.bind_some]
  have hc : decide (cmp x y < 0) = decide (x < y) := decide_eq_decide.2 (by unfold cmp; split <;> (try split) <;> omega)
  unfold both
  cases may w x
  · rfl
  · cases may u y
    · rfl
    · by_cases h : w = u
      · subst h
        simp only [Bool.and_self, cond_true, decide_true, Bool.not_true, cond_false, vec_Word_ok, Option.bind_some, hpx, hpy, word_Cmp_ok hx hy, vec_Less_1, hc, truth_ok]
      · simp only [decide_eq_false h]
        rfl

theorem ref02_less_ok {w u : Int} {x y : Nat} (hx : x < 340282366920938463463374607431768211456) (hy : y < 340282366920938463463374607431768211456) : ref02_Two [108, 101, 115, 115] (vw w x) (vw u y) = some ((both w u x y (vw 1 (bif decide (x < y) then 1 else 0), 0, ())), ()) := by
  have hpv : ((vw w x).1, (vw w x).2.1, (vw w x).2.2.1, ()) = vw w x := rfl
  have hpu : ((vw u y).1, (vw u y).2.1, (vw u y).2.2.1, ()) = vw u y := rfl
  unfold ref02_Two both
  rw [hpv, hpu, ref02_May_ok hx, Option.bind_some]
  dsimp only
  cases hm : may w x
  · simp only [Bool.not_false, Bool.not_true, gsome, gfalse, cond_true, cond_false, Bool.false_and]
  · simp only [Bool.not_true, Bool.not_false, gsome, gtrue, cond_true, cond_false, Bool.true_and]
    rw [ref02_May_ok hy, Option.bind_some]
    dsimp only
    cases hm2 : may u y
    · rfl
    · simp only [Bool.not_true, cond_false, cond_true]
      rw [show (vw w x).1 = w from rfl, show (vw u y).1 = u from rfl]
      by_cases h : w = u
      · subst h
        obtain ⟨h1, h2, h3⟩ := may_of hm
        obtain ⟨W, rfl⟩ : ∃ W : Nat, w = W := ⟨w.toNat, by omega⟩
        have hxl := may_lt hm
        have hyl := may_lt hm2
        rw [Int.toNat_natCast] at hxl hyl
        rw [decide_eq_true rfl, Bool.not_true, cond_false, cond_true, ref02_Bits_ok hx, Option.bind_some, ref02_Bits_ok hy, Option.bind_some]
        dsimp only
        rw [show (min (W : Int) 128).toNat = W by omega]
        refine two_s0 (by omega) ?_
        unfold ref02_Two_s0
        rw [lrow_len, decide_eq_false (show ¬ (W : Int) < (W : Int) by omega), cond_false, show decide (([108, 101, 115, 115] : List Int) = [101, 113]) = false by decide, show decide (([108, 101, 115, 115] : List Int) = [108, 101, 115, 115]) = true by decide, cond_false, cond_true, of_one, Nat.mod_eq_of_lt hxl, Nat.mod_eq_of_lt hyl]
        rfl
      · rw [decide_eq_false h]
        rfl

theorem within {w1 w2 w3 : Int} {x y z : Nat} (hx : x < 340282366920938463463374607431768211456) (hy : y < 340282366920938463463374607431768211456) (hz : z < 340282366920938463463374607431768211456) : ∃ r, vec_Within (vw w1 x) (vw w2 y) (vw w3 z) = some ((r, ()), ()) ∧ ref02_Within (vw w1 x) (vw w2 y) (vw w3 z) = some ((r, ()), ()) := by
  have hpx : ((vw w1 x).1, (vw w1 x).2.1, (vw w1 x).2.2.1, ()) = vw w1 x := rfl
  have hpy : ((vw w2 y).1, (vw w2 y).2.1, (vw w2 y).2.2.1, ()) = vw w2 y := rfl
  have hpz : ((vw w3 z).1, (vw w3 z).2.1, (vw w3 z).2.2.1, ()) = vw w3 z := rfl
  unfold vec_Within ref02_Within
  rw [hpx, hpy, hpz, vec_Less_ok hx hy, vec_Less_ok hz hx, ref02_less_ok hx hy, ref02_less_ok hz hx]
  simp only [Option.bind_some, gsome]
  exact ⟨_, rfl, rfl⟩

end Go.L

namespace Go.L
open Go Go.Pv
set_option maxRecDepth 100000

def neg (op : List Int) : Bool := decide (op = [115, 117, 98]) || decide (op = [115, 117, 98, 115, 97, 116])

/-- the second number, as it is added -/
def opd (op : List Int) (W y : Nat) : Nat := bif neg op then 2 ^ W - 1 - y else y
def c0 (op : List Int) : Nat := bif neg op then 1 else 0

end Go.L

namespace Go.L
open Go Go.Pv
set_option maxRecDepth 100000

/-- what two numbers of W bits are made to -/
def num (op : List Int) (W x y : Nat) : Nat :=
  bif decide (op = [97, 110, 100]) then x &&& y else bif decide (op = [111, 114]) then x ||| y else bif decide (op = [120, 111, 114]) then x ^^^ y else x + opd op W y + c0 op

end Go.L

namespace Go.L
open Go Go.Pv
set_option maxRecDepth 100000

abbrev S1 := ((List Int) × Int × (List Bool) × Int × (List Bool) × Bool × Int × Unit) × ((Int × Int × Int × Unit) × Unit)
noncomputable abbrev f1 : S1 → Option (S1 ⊕ (((Int × Int × Int × Unit) × Int × Unit) × (Unit))) := fun z => ref02_One_s0 z.1.1 z.1.2.1 z.1.2.2.1 z.1.2.2.2.1 z.1.2.2.2.2.1 z.1.2.2.2.2.2.1 z.1.2.2.2.2.2.2.1 z.2.1

section
variable {n : Int} {W x i : Nat} {out : List Bool} {c : Bool} {v : Int × Int × Int × Unit}

end

end Go.L

namespace Go.L
open Go Go.Pv
set_option maxRecDepth 100000

theorem may_of_lt {w : Int} {x : Nat} (h1 : 1 ≤ w) (h2 : w ≤ 128) (hx : x < 2 ^ w.toNat) : may w x = true := by
  have := bitLen_le hx
  exact decide_eq_true ⟨⟨h1, h2⟩, by omega⟩

end Go.L

namespace Go.L
open Go Go.Pv
set_option maxRecDepth 100000

theorem be_snoc (n m : Nat) : be n (m + 1) = be (n / 256) m ++ [((n % 256 : Nat) : Int)] := by
  unfold be lrow
  rw [List.range_succ, List.map_append]
  congr 1
  · apply List.map_congr_left
    intro j hj
    have hj := List.mem_range.1 hj
    have e : 8 * (m + 1 - 1 - j) = 8 + 8 * (m - 1 - j) := by omega
    rw [e, Nat.pow_add, ← Nat.div_div_eq_div_mul]
  · simp

theorem beN_be : ∀ (m n : Nat), beN (be n m) = n % 256 ^ m
  | 0, n => by rw [Nat.pow_zero, Nat.mod_one]; rfl
  | m + 1, n => by
    rw [be_snoc, beN_snoc, beN_be m, Nat.pow_succ, Nat.mul_comm (256 ^ m), Nat.mod_mul, Int.toNat_natCast]
    omega

theorem be_beN : ∀ (m : Nat) (l : List Int), l.length = m → (∀ v ∈ l, inR .u8 v = true) → be (beN l) m = l
  | 0, l, h, _ => by obtain rfl := List.length_eq_zero_iff.1 h; rfl
  | m + 1, l, h, hu => by
    rcases List.eq_nil_or_concat l with rfl | ⟨l', v, hc⟩
    · simp at h
    · rw [List.concat_eq_append] at hc
      subst hc
      rw [List.length_append] at h
      have hv := u8_of (hu v (by simp))
      have h1 := be_beN m l' (by simpa using h) fun v hv => hu v (by simp [hv])
      rw [be_snoc, beN_snoc, show (beN l' * 256 + v.toNat) / 256 = beN l' by omega, h1, show (beN l' * 256 + v.toNat) % 256 = v.toNat by omega]
      congr 2
      omega

structure Codec (b : List Int) {α : Type} (R : Sta → α × Sta) (V : α → Prop) (e : α → List Int) : Prop where
  stick : ∀ s f, s.2 = some f → (R s).2 = s
  enc : ∀ x a, V x → a ≤ b.length → e x <+: b.drop a → R (a, none) = (x, a + (e x).length, none)
  cut : ∀ x a, V x → a ≤ b.length → b.drop a <+: e x → (b.drop a).length < (e x).length → ∃ p : Nat, (R (a, none)).2.2 = some (3, (p : Int), ()) ∧ p ≤ b.length
  dec : ∀ a, a ≤ b.length → (R (a, none)).2.2 = none → V (R (a, none)).1 ∧ e (R (a, none)).1 <+: b.drop a ∧ (R (a, none)).2.1 = a + (e (R (a, none)).1).length

theorem pre_drop {l e1 e2 : List Int} (h : e1 ++ e2 <+: l) : e1 <+: l ∧ e2 <+: l.drop e1.length := by
  obtain ⟨t, rfl⟩ := h
  refine ⟨⟨e2 ++ t, by rw [List.append_assoc]⟩, ⟨t, ?_⟩⟩
  rw [List.append_assoc, List.drop_left]

theorem pre_len {l e : List Int} (h : e <+: l) : e.length ≤ l.length := h.length_le

theorem sta_none {s : Sta} (h : s.2 = none) : s = (s.1, none) := by
  obtain ⟨a, f⟩ := s
  obtain rfl : f = none := h
  rfl

theorem Codec.seq {b : List Int} {α β : Type} {R1 : Sta → α × Sta} {R2 : α → Sta → β × Sta} {V1 : α → Prop} {V2 : α → β → Prop} {e1 : α → List Int} {e2 : α → β → List Int}
    (h1 : Codec b R1 V1 e1) (h2 : ∀ x, V1 x → Codec b (R2 x) (V2 x) (e2 x)) (hs : ∀ x s f, s.2 = some f → (R2 x s).2 = s) :
    Codec b (fun s => (((R1 s).1, (R2 (R1 s).1 (R1 s).2).1), (R2 (R1 s).1 (R1 s).2).2)) (fun p => V1 p.1 ∧ V2 p.1 p.2) (fun p => e1 p.1 ++ e2 p.1 p.2) where
  stick s f hf := by
    show (R2 (R1 s).1 (R1 s).2).2 = s
    rw [h1.stick s f hf]
    exact hs _ _ _ hf
  enc x a hV ha hp := by
    obtain ⟨p1, p2⟩ := pre_drop hp
    have hl := pre_len p1
    rw [List.length_drop] at hl
    have r1 := h1.enc x.1 a hV.1 ha p1
    rw [List.drop_drop] at p2
    have r2 := (h2 x.1 hV.1).enc x.2 (a + (e1 x.1).length) hV.2 (by omega) p2
    show (((R1 (a, none)).1, (R2 (R1 (a, none)).1 (R1 (a, none)).2).1), (R2 (R1 (a, none)).1 (R1 (a, none)).2).2) = (x, a + (e1 x.1 ++ e2 x.1 x.2).length, none)
    rw [r1]
    show ((x.1, (R2 x.1 (a + (e1 x.1).length, none)).1), (R2 x.1 (a + (e1 x.1).length, none)).2) = _
    rw [r2, List.length_append, Nat.add_assoc]
  cut x a hV ha hp hl := by
    dsimp only at hp hl ⊢
    by_cases hc : (b.drop a).length < (e1 x.1).length
    · have hp1 : b.drop a <+: e1 x.1 := List.prefix_of_prefix_length_le hp (List.prefix_append _ _) (by omega)
      obtain ⟨p, hp2, hp3⟩ := h1.cut x.1 a hV.1 ha hp1 hc
      refine ⟨p, ?_, hp3⟩
      rw [hs _ _ _ hp2, hp2]
    · have hp1 : e1 x.1 <+: b.drop a := List.prefix_of_prefix_length_le (List.prefix_append _ _) hp (by omega)
      have r1 := h1.enc x.1 a hV.1 ha hp1
      have hl2 := pre_len hp1
      rw [List.length_drop] at hl2
      rw [List.length_append] at hl
      have hp4 : b.drop (a + (e1 x.1).length) <+: e2 x.1 x.2 := by
        obtain ⟨t, ht⟩ := hp
        refine ⟨t, ?_⟩
        have := congrArg (List.drop (e1 x.1).length) ht
        rw [List.drop_left, List.drop_append_of_le_length (by rw [List.length_drop]; omega), List.drop_drop] at this
        exact this
      obtain ⟨p, hp2, hp3⟩ := (h2 x.1 hV.1).cut x.2 (a + (e1 x.1).length) hV.2 (by omega) hp4 (by rw [List.length_drop] at hl ⊢; omega)
      refine ⟨p, ?_, hp3⟩
      rw [r1]
      exact hp2
  dec a ha hn := by
    dsimp only at hn ⊢
    have hn1 : (R1 (a, none)).2.2 = none := by
      cases hf : (R1 (a, none)).2.2 with
      | none => rfl
      | some f =>
        rw [hs _ _ _ hf, hf] at hn
        cases hn
    obtain ⟨d1, d2, d3⟩ := h1.dec a ha hn1
    have hl := pre_len d2
    rw [List.length_drop] at hl
    have hst := sta_none hn1
    rw [d3] at hst
    rw [hst] at hn ⊢
    obtain ⟨c1, c2, c3⟩ := (h2 _ d1).dec _ (by omega) hn
    refine ⟨⟨d1, c1⟩, ?_, ?_⟩
    · obtain ⟨t, ht⟩ := d2
      have := congrArg (List.drop (e1 (R1 (a, none)).1).length) ht
      rw [List.drop_left, List.drop_drop] at this
      rw [← this] at c2
      rw [← ht]
      exact (List.prefix_append_right_inj _).2 c2
    · rw [c3, List.length_append]
      omega

theorem Codec.map {b : List Int} {α β : Type} {R : Sta → α × Sta} {R' : Sta → β × Sta} {V : α → Prop} {V' : β → Prop} {e : α → List Int} {e' : β → List Int} {f : α → β} (g : β → α)
    (h : Codec b R V e) (hR2 : ∀ s, (R' s).2 = (R s).2) (hR1 : ∀ s, (R s).2.2 = none → (R' s).1 = f (R s).1)
    (h1 : ∀ y, V' y → V (g y) ∧ f (g y) = y ∧ e' y = e (g y)) (h2 : ∀ x, V x → V' (f x) ∧ e' (f x) = e x) : Codec b R' V' e' where
  stick s t ht := by rw [hR2]; exact h.stick s t ht
  enc y a hV ha hp := by
    obtain ⟨k1, k2, k3⟩ := h1 y hV
    rw [k3] at hp ⊢
    have r := h.enc (g y) a k1 ha hp
    have r1 := hR1 (a, none) (by rw [r])
    have r2 := hR2 (a, none)
    rw [r] at r1 r2
    dsimp only at r1 r2
    rw [k2] at r1
    exact Prod.ext r1 r2
  cut y a hV ha hp hl := by
    obtain ⟨k1, k2, k3⟩ := h1 y hV
    rw [k3] at hp hl
    rw [hR2]
    exact h.cut (g y) a k1 ha hp hl
  dec a ha hn := by
    rw [hR2] at hn ⊢
    rw [hR1 _ hn]
    obtain ⟨d1, d2, d3⟩ := h.dec a ha hn
    obtain ⟨k1, k2⟩ := h2 _ d1
    rw [k2]
    exact ⟨k1, d2, d3⟩

theorem take_pre {l e : List Int} {k : Nat} (h : e <+: l) (hk : e.length = k) : l.take k = e := by
  obtain ⟨t, rfl⟩ := h
  rw [← hk, List.take_left]

theorem nat64_nat {n : Nat} (h : n < 18446744073709551616) : nat64 (n : Int) = n := by
  have := nat64_eq (n : Int)
  omega

theorem codec_num {b : List Int} (hb : okB b) {k : Nat} {m : Int} (hk : k ≤ 4) (hm : m < (256 ^ k : Nat)) : Codec b (fun s => rdNum b s.1 s.2 k m) (fun n => 0 ≤ n ∧ n ≤ m) (fun n => be (nat64 n) k) where
  stick s f hf := by
    obtain ⟨a, g⟩ := s
    obtain rfl : g = some f := hf
    rfl
  enc n a hV ha hp := by
    have hp' := take_pre hp (be_len _ _)
    have hl := pre_len hp
    rw [be_len, List.length_drop] at hl
    obtain ⟨x, rfl⟩ : ∃ x : Nat, n = (x : Int) := ⟨n.toNat, by omega⟩
    have h4 : 256 ^ k ≤ 256 ^ 4 := Nat.pow_le_pow_right (by omega) hk
    have hx : x < 256 ^ k := by omega
    rw [nat64_nat (by omega)] at hp' ⊢
    dsimp only
    unfold rdNum
    dsimp only
    rw [if_pos (by omega), hp', beN_be, Nat.mod_eq_of_lt hx, if_neg (by omega), be_len]
  cut n a hV ha hp hl := by
    rw [be_len, List.length_drop] at hl
    dsimp only
    rw [rdNum0 (by omega)]
    exact ⟨a, rfl, ha⟩
  dec a ha hn := by
    dsimp only at hn ⊢
    unfold rdNum at hn ⊢
    dsimp only at hn ⊢
    by_cases h : a + k ≤ b.length
    · rw [if_pos h] at hn ⊢
      by_cases h2 : ((beN ((b.drop a).take k) : Nat) : Int) > m
      · rw [if_pos h2] at hn; cases hn
      · rw [if_neg h2] at hn ⊢
        have h4 : 256 ^ k ≤ 256 ^ 4 := Nat.pow_le_pow_right (by omega) hk
        have hlk : ((b.drop a).take k).length = k := by rw [List.length_take, List.length_drop]; omega
        have hlt := beN_lt _ (mem_part (n := a) (k := k) hb.u8)
        rw [hlk] at hlt
        dsimp only
        rw [nat64_nat (by omega), be_beN k _ hlk (mem_part hb.u8)]
        exact ⟨⟨by omega, by omega⟩, List.take_prefix _ _, by rw [hlk]⟩
    · rw [if_neg h] at hn; cases hn

/-- a vector's number -/
abbrev vn (v : Int × Int × Int × Unit) : Nat := v.2.1.toNat * 18446744073709551616 + v.2.2.1.toNat
def vecV (v : Int × Int × Int × Unit) : Prop := may v.1 (vn v) = true ∧ okV v
abbrev encV (v : Int × Int × Int × Unit) : List Int := enc v.1 (vn v)

theorem bits_lt {w : Int} {x : Nat} (h : may w x = true) : x < 2 ^ w.toNat := by
  obtain ⟨h1, h2, h3⟩ := may_of h
  have h4 := (bitLen_spec x).1
  exact Nat.lt_of_lt_of_le h4 (Nat.pow_le_pow_right (by omega) (by omega))

theorem okV_of {w : Int} {x : Nat} (h : x < 340282366920938463463374607431768211456) : okV (vw w x) ∧ vn (vw w x) = x := by
  unfold okV vn vw wp
  dsimp only
  refine ⟨⟨?_, ?_⟩, ?_⟩
  · simp [inR, IntKind.min, IntKind.max, IntKind.signed, IntKind.bits]; omega
  · simp [inR, IntKind.min, IntKind.max, IntKind.signed, IntKind.bits]; omega
  · omega

theorem enc_eq {w : Int} {x : Nat} (h : may w x = true) : enc w x = [w] ++ be x ((w.toNat + 7) / 8) := by
  unfold enc; rw [h]; rfl

theorem pow256 {w n : Nat} (h : w ≤ 8 * n) : 2 ^ w ≤ 256 ^ n := by
  rw [show 256 ^ n = 2 ^ (8 * n) by rw [Nat.pow_mul]]
  exact Nat.pow_le_pow_right (by omega) h

theorem beN1 {v : Int} (h : 0 ≤ v) : beN [v] = v.toNat := by unfold beN; simp

theorem codec_vec {b : List Int} (hb : okB b) : Codec b (rdVec b) vecV encV where
  stick s f hf := by
    obtain ⟨a, g⟩ := s
    obtain rfl : g = some f := hf
    rfl
  enc v a hV ha hp := by
    obtain ⟨k1, k2⟩ := hV
    obtain ⟨h1, h2, _⟩ := may_of k1
    have hx := bits_lt k1
    have hev := (okV_vw k2).2
    have hp : enc v.1 (vn v) <+: b.drop a := hp
    show rdVec b (a, none) = (v, a + (enc v.1 (vn v)).length, none)
    rw [enc_eq k1] at hp ⊢
    change v = vw v.1 (vn v) at hev
    generalize vn v = x at *
    obtain ⟨p1, p2⟩ := pre_drop hp
    have hl := pre_len hp
    rw [List.length_append, be_len, List.length_drop, List.length_singleton] at hl
    rw [List.drop_drop, List.length_singleton] at p2
    have t1 := take_pre p1 rfl
    have t2 := take_pre p2 (be_len _ _)
    rw [List.length_singleton] at t1
    obtain ⟨w, hw⟩ : ∃ w : Nat, v.1 = (w : Int) := ⟨v.1.toNat, by omega⟩
    rw [hw] at t1 t2 hx hl h1 h2 hev ⊢
    rw [Int.toNat_natCast] at t2 hx hl ⊢
    have hq := pow256 (w := w) (n := (w + 7) / 8) (by omega)
    have b1 := beN1 (v := (w : Int)) (by omega)
    rw [Int.toNat_natCast] at b1
    unfold rdVec
    dsimp only
    rw [if_pos (by omega), t1, b1]
    rw [if_neg (by omega), if_pos (by omega), t2, beN_be, Nat.mod_eq_of_lt (by omega), if_pos hx, List.length_append, List.length_singleton, be_len, ← hev, Nat.add_assoc]
  cut v a hV ha hp hl := by
    obtain ⟨k1, k2⟩ := hV
    obtain ⟨h1, h2, _⟩ := may_of k1
    have hp : b.drop a <+: enc v.1 (vn v) := hp
    have hl : (b.drop a).length < (enc v.1 (vn v)).length := hl
    rw [enc_eq k1] at hp hl
    rw [List.length_append, be_len, List.length_drop, List.length_singleton] at hl
    refine ⟨a, ?_, ha⟩
    unfold rdVec
    dsimp only
    by_cases hA : a + 1 ≤ b.length
    · have t1 : (b.drop a).take 1 = [v.1] := by
        have h3 : [v.1] <+: b.drop a := List.prefix_of_prefix_length_le (List.prefix_append _ _) hp (by rw [List.length_drop, List.length_singleton]; omega)
        exact take_pre h3 rfl
      have b1 := beN1 (v := v.1) (by omega)
      rw [if_pos hA, t1, b1, if_neg (by omega), if_neg (by omega)]
    · rw [if_neg hA]
  dec a ha hn := by
    have hn : (rdVec b (a, none)).2.2 = none := hn
    show vecV (rdVec b (a, none)).1 ∧ encV (rdVec b (a, none)).1 <+: b.drop a ∧ (rdVec b (a, none)).2.1 = a + (encV (rdVec b (a, none)).1).length
    unfold rdVec at hn ⊢
    dsimp only at hn ⊢
    by_cases hA : a + 1 ≤ b.length
    · rw [if_pos hA] at hn ⊢
      have hlk : ((b.drop a).take 1).length = 1 := by rw [List.length_take, List.length_drop]; omega
      have hbe := be_beN 1 _ hlk (mem_part hb.u8)
      have hlt := one_lt hb a
      generalize beN ((b.drop a).take 1) = w at *
      by_cases hbad : w < 1 ∨ 128 < w
      · rw [if_pos hbad] at hn; cases hn
      · rw [if_neg hbad] at hn ⊢
        have hq := pow256 (w := w) (n := (w + 7) / 8) (by omega)
        have h1 : be w 1 = [(w : Int)] := by
          have := be1 (n := (w : Int)) (by omega) (by omega)
          rw [nat64_nat (by omega)] at this
          exact this
        have hn16 : (w + 7) / 8 ≤ 16 := by omega
        have hwn : (((w : Int).toNat + 7) / 8) = (w + 7) / 8 := by rw [Int.toNat_natCast]
        generalize (w + 7) / 8 = n at *
        by_cases hk : a + 1 + n ≤ b.length
        · rw [if_pos hk] at hn ⊢
          have hlk2 : ((b.drop (a + 1)).take n).length = n := by rw [List.length_take, List.length_drop]; omega
          have hbe2 := be_beN n _ hlk2 (mem_part hb.u8)
          generalize hX : beN ((b.drop (a + 1)).take n) = x at *
          by_cases hx : x < 2 ^ w
          · rw [if_pos hx] at hn ⊢
            have h128 : 2 ^ w ≤ 2 ^ 128 := Nat.pow_le_pow_right (by omega) (by omega)
            have hx128 : x < 340282366920938463463374607431768211456 := Nat.lt_of_lt_of_le hx h128
            obtain ⟨o1, o2⟩ := okV_of (w := (w : Int)) hx128
            have hm : may (w : Int) x = true := may_of_lt (by omega) (by omega) (by rw [Int.toNat_natCast]; exact hx)
            have he : encV (vw (w : Int) x) = (b.drop a).take 1 ++ ((b.drop (a + 1)).take n) := by
              show enc (w : Int) (vn (vw (w : Int) x)) = _
              rw [o2, enc_eq hm, hwn, hbe2, ← hbe, h1]
            have hd : (b.drop a).take 1 ++ ((b.drop (a + 1)).take n) = (b.drop a).take (1 + n) := by
              rw [List.take_add, List.drop_drop]
            dsimp only
            rw [he, hd]
            refine ⟨⟨?_, o1⟩, List.take_prefix _ _, ?_⟩
            · rw [o2]; exact hm
            · rw [List.length_take, List.length_drop]; omega
          · rw [if_neg hx] at hn; cases hn
        · rw [if_neg hk] at hn; cases hn
    · rw [if_neg hA] at hn; cases hn

end Go.L

namespace Go.L
open Go Go.Pv
set_option maxRecDepth 100000

/-- the first rune of bytes a0 a1 .. of which there are n, and how many bytes it takes -/
def fstN (a0 a1 a2 a3 n : Nat) : Nat × Nat :=
  if a0 < 128 then (a0, 1)
  else if 194 ≤ a0 ∧ a0 < 224 ∧ 2 ≤ n ∧ 128 ≤ a1 ∧ a1 < 192 then (64 * (a0 - 192) + (a1 - 128), 2)
  else if (224 ≤ a0 ∧ a0 < 240 ∧ 3 ≤ n ∧ 128 ≤ a1 ∧ a1 < 192 ∧ 128 ≤ a2 ∧ a2 < 192) ∧ 2048 ≤ 4096 * (a0 - 224) + 64 * (a1 - 128) + (a2 - 128) ∧ (4096 * (a0 - 224) + 64 * (a1 - 128) + (a2 - 128) < 55296 ∨ 57343 < 4096 * (a0 - 224) + 64 * (a1 - 128) + (a2 - 128)) then (4096 * (a0 - 224) + 64 * (a1 - 128) + (a2 - 128), 3)
  else if (240 ≤ a0 ∧ a0 < 245 ∧ 4 ≤ n ∧ 128 ≤ a1 ∧ a1 < 192 ∧ 128 ≤ a2 ∧ a2 < 192 ∧ 128 ≤ a3 ∧ a3 < 192) ∧ 65536 ≤ 262144 * (a0 - 240) + 4096 * (a1 - 128) + 64 * (a2 - 128) + (a3 - 128) ∧ 262144 * (a0 - 240) + 4096 * (a1 - 128) + 64 * (a2 - 128) + (a3 - 128) ≤ 1114111 then (262144 * (a0 - 240) + 4096 * (a1 - 128) + 64 * (a2 - 128) + (a3 - 128), 4)
  else (65533, 1)

/-- the same of the machine's arithmetic -/
theorem decode_fst {s : ByteArray} {i a0 a1 a2 a3 : Nat} (h0 : (s.get! (i + 0)).toNat = a0) (h1 : (s.get! (i + 1)).toNat = a1) (h2 : (s.get! (i + 2)).toNat = a2) (h3 : (s.get! (i + 3)).toNat = a3) (hi : i < s.size) :
    Utf8.decode s i = fstN a0 a1 a2 a3 (s.size - i) := by
  have b0 := (s.get! (i + 0)).toNat_lt
  have b1 := (s.get! (i + 1)).toNat_lt
  have b2 := (s.get! (i + 2)).toNat_lt
  have b3 := (s.get! (i + 3)).toNat_lt
  rw [h0] at b0
  rw [h1] at b1
  rw [h2] at b2
  rw [h3] at b3
  unfold Utf8.decode fstN
  simp only [h0, h1, h2, h3, Bool.and_eq_true, beq_iff_eq, decide_eq_true_eq, Utf8.valid, Utf8.runeError, Bool.or_eq_true, ge_iff_le]
  by_cases c0 : a0 < 128
  · rw [if_pos c0, if_pos c0]
  · rw [if_neg c0, if_neg c0]
    by_cases c1 : 192 ≤ a0 ∧ a0 < 224
    · rw [if_neg (show ¬ ((224 ≤ a0 ∧ a0 < 240 ∧ 3 ≤ s.size - i ∧ 128 ≤ a1 ∧ a1 < 192 ∧ 128 ≤ a2 ∧ a2 < 192) ∧ _) by omega), if_neg (show ¬ ((240 ≤ a0 ∧ a0 < 245 ∧ 4 ≤ s.size - i ∧ 128 ≤ a1 ∧ a1 < 192 ∧ 128 ≤ a2 ∧ a2 < 192 ∧ 128 ≤ a3 ∧ a3 < 192) ∧ _) by omega)]
      by_cases m1 : 2 ≤ s.size - i ∧ 128 ≤ a1 ∧ a1 < 192
      · rw [if_pos (by omega)]
        by_cases c2 : 194 ≤ a0
        · rw [if_pos (by omega), if_pos (by omega)]
          congr 1
          omega
        · rw [if_neg (by omega), if_neg (by omega)]
      · rw [if_neg (by omega), if_neg (by omega), if_neg (by omega), if_neg (by omega)]
    · rw [if_neg (show ¬ (194 ≤ a0 ∧ a0 < 224 ∧ 2 ≤ s.size - i ∧ 128 ≤ a1 ∧ a1 < 192) by omega), if_neg (by omega)]
      by_cases c2 : 224 ≤ a0 ∧ a0 < 240
      · rw [if_neg (show ¬ ((240 ≤ a0 ∧ a0 < 245 ∧ 4 ≤ s.size - i ∧ 128 ≤ a1 ∧ a1 < 192 ∧ 128 ≤ a2 ∧ a2 < 192 ∧ 128 ≤ a3 ∧ a3 < 192) ∧ _) by omega)]
        by_cases m1 : 3 ≤ s.size - i ∧ 128 ≤ a1 ∧ a1 < 192 ∧ 128 ≤ a2 ∧ a2 < 192
        · rw [if_pos (by omega)]
          have e : a0 % 16 * 4096 + a1 % 64 * 64 + a2 % 64 = 4096 * (a0 - 224) + 64 * (a1 - 128) + (a2 - 128) := by omega
          rw [e]
          have hvb : 4096 * (a0 - 224) + 64 * (a1 - 128) + (a2 - 128) ≤ 65535 := by omega
          generalize 4096 * (a0 - 224) + 64 * (a1 - 128) + (a2 - 128) = v at hvb
          by_cases hv : 2048 ≤ v ∧ (v < 55296 ∨ 57343 < v) ∧ v ≤ 1114111
          · rw [if_pos (by omega), if_pos (by omega)]
          · by_cases hv2 : v ≤ 1114111
            · rw [if_neg (by omega), if_neg (by omega)]
            · exfalso; omega
        · rw [if_neg (by omega), if_neg (by omega), if_neg (by omega)]
      · rw [if_neg (show ¬ ((224 ≤ a0 ∧ a0 < 240 ∧ 3 ≤ s.size - i ∧ 128 ≤ a1 ∧ a1 < 192 ∧ 128 ≤ a2 ∧ a2 < 192) ∧ _) by omega), if_neg (by omega)]
        by_cases m1 : (240 ≤ a0 ∧ a0 < 248) ∧ 4 ≤ s.size - i ∧ 128 ≤ a1 ∧ a1 < 192 ∧ 128 ≤ a2 ∧ a2 < 192 ∧ 128 ≤ a3 ∧ a3 < 192
        · rw [if_pos (by omega)]
          have e : a0 % 8 * 262144 + a1 % 64 * 4096 + a2 % 64 * 64 + a3 % 64 = 262144 * (a0 - 240) + 4096 * (a1 - 128) + 64 * (a2 - 128) + (a3 - 128) := by omega
          rw [e]
          by_cases hv : 65536 ≤ 262144 * (a0 - 240) + 4096 * (a1 - 128) + 64 * (a2 - 128) + (a3 - 128) ∧ 262144 * (a0 - 240) + 4096 * (a1 - 128) + 64 * (a2 - 128) + (a3 - 128) ≤ 1114111
          · rw [if_pos (by omega), if_pos (by omega)]
          · rw [if_neg (by omega), if_neg (by omega)]
        · rw [if_neg (by omega), if_neg (by omega)]

theorem strB_size (l : List Int) : (strB l).size = l.length := by
  show (strB l).data.size = _
  unfold strB
  simp

theorem strB_get {l : List Int} (h : ∀ v ∈ l, inR .u8 v = true) (i : Nat) : ((strB l).get! i).toNat = (l.getD i 0).toNat := by
  have e : (strB l).get! i = ((l.map fun v => v.toNat.toUInt8).toArray)[i]! := rfl
  rw [e]
  by_cases hi : i < l.length
  · have hv := u8_of (h l[i] (List.getElem_mem hi))
    rw [getElem!_pos _ i (by simpa using hi)]
    simp only [List.getElem_toArray, List.getElem_map, List.getD_eq_getElem?_getD, List.getElem?_eq_getElem hi, Option.getD_some]
    simp
    omega
  · rw [getElem!_neg _ i (by simpa using hi)]
    rw [List.getD_eq_getElem?_getD, List.getElem?_eq_none (by omega)]
    rfl

/-- the first rune of a text -/
def fst5 (l : List Int) : Nat × Nat := fstN (l.getD 0 0).toNat (l.getD 1 0).toNat (l.getD 2 0).toNat (l.getD 3 0).toNat l.length

theorem fstN_w (a0 a1 a2 a3 n : Nat) (h : 1 ≤ n) : 1 ≤ (fstN a0 a1 a2 a3 n).2 ∧ (fstN a0 a1 a2 a3 n).2 ≤ n ∧ (fstN a0 a1 a2 a3 n).2 ≤ 4 := by
  unfold fstN
  split
  · exact ⟨Nat.le_refl _, h, by show 1 ≤ 4; omega⟩
  split
  · exact ⟨by show 1 ≤ 2; omega, by show 2 ≤ n; omega, by show 2 ≤ 4; omega⟩
  split
  · exact ⟨by show 1 ≤ 3; omega, by show 3 ≤ n; omega, by show 3 ≤ 4; omega⟩
  split
  · exact ⟨by show 1 ≤ 4; omega, by show 4 ≤ n; omega, Nat.le_refl _⟩
  · exact ⟨Nat.le_refl _, h, by show 1 ≤ 4; omega⟩

theorem runeAt_fst {l : List Int} (h : ∀ v ∈ l, inR .u8 v = true) {p : Nat} (hp : p < l.length) : runeAt l (p : Int) = (((fst5 (l.drop p)).1 : Int), ((fst5 (l.drop p)).2 : Int)) := by
  have hd := decode_fst (s := strB l) (i := p) (strB_get h _) (strB_get h _) (strB_get h _) (strB_get h _) (by rw [strB_size]; exact hp)
  have hg : ∀ k, (l.drop p).getD k 0 = l.getD (p + k) 0 := by
    intro k
    simp [List.getD_eq_getElem?_getD, List.getElem?_drop]
  unfold runeAt fst5
  rw [Int.toNat_natCast, hd, strB_size, hg, hg, hg, hg, List.length_drop]

/-- a text's runes -/
def runs : Nat → List Int → List Int
  | 0, _ => []
  | k + 1, l => if l.length = 0 then [] else ((fst5 l).1 : Int) :: runs k (l.drop (fst5 l).2)

theorem fst5_w {l : List Int} (h : l.length ≠ 0) : 1 ≤ (fst5 l).2 ∧ (fst5 l).2 ≤ l.length ∧ (fst5 l).2 ≤ 4 := fstN_w _ _ _ _ _ (by omega)

theorem runs_len : ∀ (k : Nat) (l : List Int), l.length ≤ k → (runs k l).length ≤ l.length ∧ l.length ≤ 4 * (runs k l).length
  | 0, l, h => by unfold runs; simp only [List.length_nil]; omega
  | k + 1, l, h => by
    unfold runs
    by_cases h0 : l.length = 0
    · rw [if_pos h0]; simp only [List.length_nil]; omega
    · rw [if_neg h0]
      have hw := fst5_w h0
      have ih := runs_len k (l.drop (fst5 l).2) (by rw [List.length_drop]; omega)
      rw [List.length_drop] at ih
      rw [List.length_cons]
      omega

/-- the runes of a text -/
def runes (l : List Int) : List Int := runs l.length l

theorem runs_eq : ∀ (k : Nat) (l : List Int), l.length ≤ k → runs k l = runes l
  | 0, l, h => by
    have : l.length = 0 := by omega
    unfold runes
    rw [this]
  | k + 1, l, h => by
    unfold runes
    by_cases h0 : l.length = 0
    · rw [h0]; unfold runs; rw [if_pos h0]
    · obtain ⟨m, hm⟩ : ∃ m, l.length = m + 1 := ⟨l.length - 1, by omega⟩
      have hw := fst5_w h0
      rw [hm, runs, runs, if_neg h0, if_neg h0, runs_eq k _ (by rw [List.length_drop]; omega), runs_eq m _ (by rw [List.length_drop]; omega)]

theorem runes_cons {l : List Int} (h : l.length ≠ 0) : runes l = ((fst5 l).1 : Int) :: runes (l.drop (fst5 l).2) := by
  have hw := fst5_w h
  have e := runs_eq (l.length - 1 + 1) l (by omega)
  rw [← e, runs, if_neg h, runs_eq _ _ (by rw [List.length_drop]; omega)]

theorem runes_nil {l : List Int} (h : l.length = 0) : runes l = [] := by unfold runes; rw [h]; rfl

end Go.L

namespace Go.L
open Go Go.Pv
set_option maxRecDepth 100000

def moreB (a : Int) : Bool := decide (128 ≤ a) && decide (a < 192)

theorem more_ok (a : Int) : ref05_more a = some ((moreB a, ()), ()) := by
  unfold ref05_more moreB
  simp only [gsome, ge_iff_le]
  cases decide (128 ≤ a) <;> rfl

theorem moreB_t {a : Nat} (h : 128 ≤ a ∧ a < 192) : moreB (a : Int) = true := by
  unfold moreB
  rw [decide_eq_true (by omega), decide_eq_true (by omega)]; rfl

theorem moreB_f {a : Nat} (h : ¬ (128 ≤ a ∧ a < 192)) : moreB (a : Int) = false := by
  unfold moreB
  rw [← Bool.decide_and]
  exact decide_eq_false (by omega)

theorem first_ok {l : List Int} {a0 a1 a2 a3 : Nat} (h0 : l.length ≠ 0) (hn : l.length ≤ 100000) (r0 : rdI l 0 = some (a0 : Int)) (r1 : 2 ≤ l.length → rdI l 1 = some (a1 : Int)) (r2 : 3 ≤ l.length → rdI l 2 = some (a2 : Int)) (r3 : 4 ≤ l.length → rdI l 3 = some (a3 : Int))
    (b0 : a0 < 256) (b1 : a1 < 256) (b2 : a2 < 256) (b3 : a3 < 256) :
    ref05_First l = some ((((fstN a0 a1 a2 a3 l.length).1 : Int), ((fstN a0 a1 a2 a3 l.length).2 : Int), ()), ()) := by
  unfold ref05_First
  rw [decide_eq_false (by omega), cond_false, r0, Option.bind_some]
  have e0 : IntKind.i64.wrap (a0 : Int) = (a0 : Int) := wrap_i64 (by omega) (by omega)
  have e1 : IntKind.i64.wrap (a1 : Int) = (a1 : Int) := wrap_i64 (by omega) (by omega)
  have e2 : IntKind.i64.wrap (a2 : Int) = (a2 : Int) := wrap_i64 (by omega) (by omega)
  have e3 : IntKind.i64.wrap (a3 : Int) = (a3 : Int) := wrap_i64 (by omega) (by omega)
  simp only [e0]
  generalize hN : l.length = n at *
  by_cases c0 : a0 < 128
  · have hf : fstN a0 a1 a2 a3 n = (a0, 1) := by unfold fstN; rw [if_pos c0]
    rw [decide_eq_true (by omega), cond_true, hf]; rfl
  rw [decide_eq_false (by omega), cond_false]
  by_cases c1 : a0 < 194
  · have hf : fstN a0 a1 a2 a3 n = (65533, 1) := by unfold fstN; rw [if_neg c0, if_neg (by omega), if_neg (by omega), if_neg (by omega)]
    have d1 : decide ((a0 : Int) ≥ 194) = false := decide_eq_false (by omega)
    have d2 : decide ((a0 : Int) ≥ 224) = false := decide_eq_false (by omega)
    have d3 : decide ((a0 : Int) ≥ 240) = false := decide_eq_false (by omega)
    simp only [d1, d2, d3, gfalse, cond_false, hf]; rfl
  by_cases c2 : a0 < 224
  · have d1 : decide ((a0 : Int) ≥ 194) = true := decide_eq_true (by omega)
    have d2 : decide ((a0 : Int) ≥ 224) = false := decide_eq_false (by omega)
    have d3 : decide ((a0 : Int) ≥ 240) = false := decide_eq_false (by omega)
    have d4 : decide ((a0 : Int) < 224) = true := decide_eq_true (by omega)
    by_cases n2 : 2 ≤ n
    · have d5 : decide ((n : Int) ≥ 2) = true := decide_eq_true (by omega)
      by_cases m1 : 128 ≤ a1 ∧ a1 < 192
      · have hf : fstN a0 a1 a2 a3 n = (64 * (a0 - 192) + (a1 - 128), 2) := by unfold fstN; rw [if_neg c0, if_pos (by omega)]
        simp only [d1, d4, d5, gtrue, gfalse, cond_true, cond_false, Option.bind_some, r1 n2, more_ok, moreB_t m1, hf, e1]
        have k1 : IntKind.i64.wrap ((a0 : Int) - 192) = ((a0 - 192 : Nat) : Int) := by rw [wrap_i64 (by omega) (by omega)]; omega
        have k2 : IntKind.i64.wrap (64 * ((a0 - 192 : Nat) : Int)) = ((64 * (a0 - 192) : Nat) : Int) := by rw [wrap_i64 (by omega) (by omega)]; omega
        have k3 : IntKind.i64.wrap (((64 * (a0 - 192) : Nat) : Int) + (a1 : Int)) = ((64 * (a0 - 192) + a1 : Nat) : Int) := by rw [wrap_i64 (by omega) (by omega)]; omega
        have k4 : IntKind.i64.wrap (((64 * (a0 - 192) + a1 : Nat) : Int) - 128) = ((64 * (a0 - 192) + (a1 - 128) : Nat) : Int) := by rw [wrap_i64 (by omega) (by omega)]; omega
        rw [k1, k2, k3, k4]; rfl
      · have hf : fstN a0 a1 a2 a3 n = (65533, 1) := by unfold fstN; rw [if_neg c0, if_neg (by omega), if_neg (by omega), if_neg (by omega)]
        simp only [d1, d2, d3, d4, d5, gtrue, gfalse, cond_true, cond_false, Option.bind_some, r1 n2, more_ok, moreB_f m1, hf]; rfl
    · have d5 : decide ((n : Int) ≥ 2) = false := decide_eq_false (by omega)
      have hf : fstN a0 a1 a2 a3 n = (65533, 1) := by unfold fstN; rw [if_neg c0, if_neg (by omega), if_neg (by omega), if_neg (by omega)]
      simp only [d1, d2, d3, d4, d5, gtrue, gfalse, cond_true, cond_false, Option.bind_some, hf]; rfl
  by_cases c3 : a0 < 240
  · have d1 : decide ((a0 : Int) ≥ 194) = true := decide_eq_true (by omega)
    have d2 : decide ((a0 : Int) ≥ 224) = true := decide_eq_true (by omega)
    have d3 : decide ((a0 : Int) ≥ 240) = false := decide_eq_false (by omega)
    have d4 : decide ((a0 : Int) < 224) = false := decide_eq_false (by omega)
    have d6 : decide ((a0 : Int) < 240) = true := decide_eq_true (by omega)
    simp only [d1, d2, d3, d4, d6, gtrue, gfalse, cond_true, cond_false, Option.bind_some]
    by_cases n3 : 3 ≤ n
    · have d5 : decide ((n : Int) ≥ 3) = true := decide_eq_true (by omega)
      by_cases m1 : 128 ≤ a1 ∧ a1 < 192
      · by_cases m2 : 128 ≤ a2 ∧ a2 < 192
        · simp only [d5, gtrue, gfalse, cond_true, cond_false, Option.bind_some, r1 (by omega), r2 n3, more_ok, moreB_t m1, moreB_t m2, e1, e2]
          have k1 : IntKind.i64.wrap ((a0 : Int) - 224) = ((a0 - 224 : Nat) : Int) := by rw [wrap_i64 (by omega) (by omega)]; omega
          have k2 : IntKind.i64.wrap (4096 * ((a0 - 224 : Nat) : Int)) = ((4096 * (a0 - 224) : Nat) : Int) := by rw [wrap_i64 (by omega) (by omega)]; omega
          have k5 : IntKind.i64.wrap ((a1 : Int) - 128) = ((a1 - 128 : Nat) : Int) := by rw [wrap_i64 (by omega) (by omega)]; omega
          have k6 : IntKind.i64.wrap (64 * ((a1 - 128 : Nat) : Int)) = ((64 * (a1 - 128) : Nat) : Int) := by rw [wrap_i64 (by omega) (by omega)]; omega
          have k7 : IntKind.i64.wrap (((4096 * (a0 - 224) : Nat) : Int) + ((64 * (a1 - 128) : Nat) : Int)) = ((4096 * (a0 - 224) + 64 * (a1 - 128) : Nat) : Int) := by rw [wrap_i64 (by omega) (by omega)]; omega
          have k3 : IntKind.i64.wrap (((4096 * (a0 - 224) + 64 * (a1 - 128) : Nat) : Int) + (a2 : Int)) = ((4096 * (a0 - 224) + 64 * (a1 - 128) + a2 : Nat) : Int) := by rw [wrap_i64 (by omega) (by omega)]; omega
          have k4 : IntKind.i64.wrap (((4096 * (a0 - 224) + 64 * (a1 - 128) + a2 : Nat) : Int) - 128) = ((4096 * (a0 - 224) + 64 * (a1 - 128) + (a2 - 128) : Nat) : Int) := by rw [wrap_i64 (by omega) (by omega)]; omega
          rw [k1, k2, k5, k6, k7, k3, k4]
          have hf : fstN a0 a1 a2 a3 n = if 2048 ≤ 4096 * (a0 - 224) + 64 * (a1 - 128) + (a2 - 128) ∧ (4096 * (a0 - 224) + 64 * (a1 - 128) + (a2 - 128) < 55296 ∨ 57343 < 4096 * (a0 - 224) + 64 * (a1 - 128) + (a2 - 128)) then (4096 * (a0 - 224) + 64 * (a1 - 128) + (a2 - 128), 3) else (65533, 1) := by
            unfold fstN
            rw [if_neg c0, if_neg (by omega)]
            by_cases hv : 2048 ≤ 4096 * (a0 - 224) + 64 * (a1 - 128) + (a2 - 128) ∧ (4096 * (a0 - 224) + 64 * (a1 - 128) + (a2 - 128) < 55296 ∨ 57343 < 4096 * (a0 - 224) + 64 * (a1 - 128) + (a2 - 128))
            · rw [if_pos ⟨by omega, hv⟩, if_pos hv]
            · rw [if_neg (fun h => hv h.2), if_neg (by omega), if_neg hv]
          rw [hf]
          generalize 4096 * (a0 - 224) + 64 * (a1 - 128) + (a2 - 128) = v
          by_cases v1 : 2048 ≤ v
          · rw [decide_eq_true (show ((v : Nat) : Int) ≥ 2048 by omega)]
            by_cases v2 : v < 55296
            · rw [if_pos (by omega), decide_eq_true (show ((v : Nat) : Int) < 55296 by omega)]
              simp only [gtrue, gfalse, cond_true, cond_false, Option.bind_some, Bool.not_true, Bool.and_false]; rfl
            · rw [decide_eq_false (show ¬ ((v : Nat) : Int) < 55296 by omega)]
              by_cases v3 : 57343 < v
              · rw [if_pos (by omega), decide_eq_true (show ((v : Nat) : Int) > 57343 by omega)]
                simp only [gtrue, gfalse, cond_true, cond_false, Option.bind_some, Bool.not_false, Bool.and_true]; rfl
              · rw [if_neg (by omega), decide_eq_false (show ¬ ((v : Nat) : Int) > 57343 by omega)]
                simp only [gtrue, gfalse, cond_true, cond_false, Option.bind_some, Bool.not_false, Bool.and_true]; rfl
          · rw [if_neg (by omega), decide_eq_false (show ¬ ((v : Nat) : Int) ≥ 2048 by omega)]
            simp only [gtrue, gfalse, cond_true, cond_false, Option.bind_some, Bool.false_and]; rfl
        · have hf : fstN a0 a1 a2 a3 n = (65533, 1) := by unfold fstN; rw [if_neg c0, if_neg (by omega), if_neg (by omega), if_neg (by omega)]
          simp only [d5, gtrue, gfalse, cond_true, cond_false, Option.bind_some, r1 (by omega), r2 n3, more_ok, moreB_t m1, moreB_f m2, hf]; rfl
      · have hf : fstN a0 a1 a2 a3 n = (65533, 1) := by unfold fstN; rw [if_neg c0, if_neg (by omega), if_neg (by omega), if_neg (by omega)]
        simp only [d5, gtrue, gfalse, cond_true, cond_false, Option.bind_some, r1 (by omega), more_ok, moreB_f m1, hf]; rfl
    · have d5 : decide ((n : Int) ≥ 3) = false := decide_eq_false (by omega)
      have hf : fstN a0 a1 a2 a3 n = (65533, 1) := by unfold fstN; rw [if_neg c0, if_neg (by omega), if_neg (by omega), if_neg (by omega)]
      simp only [d5, gtrue, gfalse, cond_true, cond_false, Option.bind_some, hf]; rfl
  have d1 : decide ((a0 : Int) ≥ 194) = true := decide_eq_true (by omega)
  have d2 : decide ((a0 : Int) ≥ 224) = true := decide_eq_true (by omega)
  have d3 : decide ((a0 : Int) ≥ 240) = true := decide_eq_true (by omega)
  have d4 : decide ((a0 : Int) < 224) = false := decide_eq_false (by omega)
  have d6 : decide ((a0 : Int) < 240) = false := decide_eq_false (by omega)
  simp only [d1, d2, d3, d4, d6, gtrue, gfalse, cond_true, cond_false, Option.bind_some]
  by_cases c4 : a0 < 245
  · have d7 : decide ((a0 : Int) < 245) = true := decide_eq_true (by omega)
    by_cases n4 : 4 ≤ n
    · have d5 : decide ((n : Int) ≥ 4) = true := decide_eq_true (by omega)
      by_cases m1 : 128 ≤ a1 ∧ a1 < 192
      · by_cases m2 : 128 ≤ a2 ∧ a2 < 192
        · by_cases m3 : 128 ≤ a3 ∧ a3 < 192
          · simp only [d7, d5, gtrue, gfalse, cond_true, cond_false, Option.bind_some, r1 (by omega), r2 (by omega), r3 n4, more_ok, moreB_t m1, moreB_t m2, moreB_t m3, e1, e2, e3]
            have k1 : IntKind.i64.wrap ((a0 : Int) - 240) = ((a0 - 240 : Nat) : Int) := by rw [wrap_i64 (by omega) (by omega)]; omega
            have k2 : IntKind.i64.wrap (262144 * ((a0 - 240 : Nat) : Int)) = ((262144 * (a0 - 240) : Nat) : Int) := by rw [wrap_i64 (by omega) (by omega)]; omega
            have k5 : IntKind.i64.wrap ((a1 : Int) - 128) = ((a1 - 128 : Nat) : Int) := by rw [wrap_i64 (by omega) (by omega)]; omega
            have k6 : IntKind.i64.wrap (4096 * ((a1 - 128 : Nat) : Int)) = ((4096 * (a1 - 128) : Nat) : Int) := by rw [wrap_i64 (by omega) (by omega)]; omega
            have k7 : IntKind.i64.wrap (((262144 * (a0 - 240) : Nat) : Int) + ((4096 * (a1 - 128) : Nat) : Int)) = ((262144 * (a0 - 240) + 4096 * (a1 - 128) : Nat) : Int) := by rw [wrap_i64 (by omega) (by omega)]; omega
            have k8 : IntKind.i64.wrap ((a2 : Int) - 128) = ((a2 - 128 : Nat) : Int) := by rw [wrap_i64 (by omega) (by omega)]; omega
            have k9 : IntKind.i64.wrap (64 * ((a2 - 128 : Nat) : Int)) = ((64 * (a2 - 128) : Nat) : Int) := by rw [wrap_i64 (by omega) (by omega)]; omega
            have k10 : IntKind.i64.wrap (((262144 * (a0 - 240) + 4096 * (a1 - 128) : Nat) : Int) + ((64 * (a2 - 128) : Nat) : Int)) = ((262144 * (a0 - 240) + 4096 * (a1 - 128) + 64 * (a2 - 128) : Nat) : Int) := by rw [wrap_i64 (by omega) (by omega)]; omega
            have k3 : IntKind.i64.wrap (((262144 * (a0 - 240) + 4096 * (a1 - 128) + 64 * (a2 - 128) : Nat) : Int) + (a3 : Int)) = ((262144 * (a0 - 240) + 4096 * (a1 - 128) + 64 * (a2 - 128) + a3 : Nat) : Int) := by rw [wrap_i64 (by omega) (by omega)]; omega
            have k4 : IntKind.i64.wrap (((262144 * (a0 - 240) + 4096 * (a1 - 128) + 64 * (a2 - 128) + a3 : Nat) : Int) - 128) = ((262144 * (a0 - 240) + 4096 * (a1 - 128) + 64 * (a2 - 128) + (a3 - 128) : Nat) : Int) := by rw [wrap_i64 (by omega) (by omega)]; omega
            rw [k1, k2, k5, k6, k7, k8, k9, k10, k3, k4]
            have hf : fstN a0 a1 a2 a3 n = if 65536 ≤ 262144 * (a0 - 240) + 4096 * (a1 - 128) + 64 * (a2 - 128) + (a3 - 128) ∧ 262144 * (a0 - 240) + 4096 * (a1 - 128) + 64 * (a2 - 128) + (a3 - 128) ≤ 1114111 then (262144 * (a0 - 240) + 4096 * (a1 - 128) + 64 * (a2 - 128) + (a3 - 128), 4) else (65533, 1) := by
              unfold fstN
              rw [if_neg c0, if_neg (by omega), if_neg (by omega)]
              by_cases hv : 65536 ≤ 262144 * (a0 - 240) + 4096 * (a1 - 128) + 64 * (a2 - 128) + (a3 - 128) ∧ 262144 * (a0 - 240) + 4096 * (a1 - 128) + 64 * (a2 - 128) + (a3 - 128) ≤ 1114111
              · rw [if_pos ⟨by omega, hv⟩, if_pos hv]
              · rw [if_neg (fun h => hv h.2), if_neg hv]
            rw [hf]
            generalize 262144 * (a0 - 240) + 4096 * (a1 - 128) + 64 * (a2 - 128) + (a3 - 128) = v
            by_cases v1 : 65536 ≤ v
            · rw [decide_eq_true (show ((v : Nat) : Int) ≥ 65536 by omega)]
              by_cases v2 : v ≤ 1114111
              · rw [if_pos (by omega), decide_eq_true (show ((v : Nat) : Int) ≤ 1114111 by omega)]
                simp only [gtrue, gfalse, cond_true, cond_false, Option.bind_some]; rfl
              · rw [if_neg (by omega), decide_eq_false (show ¬ ((v : Nat) : Int) ≤ 1114111 by omega)]
                simp only [gtrue, gfalse, cond_true, cond_false, Option.bind_some]; rfl
            · rw [if_neg (by omega), decide_eq_false (show ¬ ((v : Nat) : Int) ≥ 65536 by omega)]
              simp only [gtrue, gfalse, cond_true, cond_false, Option.bind_some]; rfl
          · have hf : fstN a0 a1 a2 a3 n = (65533, 1) := by unfold fstN; rw [if_neg c0, if_neg (by omega), if_neg (by omega), if_neg (by omega)]
            simp only [d7, d5, gtrue, gfalse, cond_true, cond_false, Option.bind_some, r1 (by omega), r2 (by omega), r3 n4, more_ok, moreB_t m1, moreB_t m2, moreB_f m3, hf]; rfl
        · have hf : fstN a0 a1 a2 a3 n = (65533, 1) := by unfold fstN; rw [if_neg c0, if_neg (by omega), if_neg (by omega), if_neg (by omega)]
          simp only [d7, d5, gtrue, gfalse, cond_true, cond_false, Option.bind_some, r1 (by omega), r2 (by omega), more_ok, moreB_t m1, moreB_f m2, hf]; rfl
      · have hf : fstN a0 a1 a2 a3 n = (65533, 1) := by unfold fstN; rw [if_neg c0, if_neg (by omega), if_neg (by omega), if_neg (by omega)]
        simp only [d7, d5, gtrue, gfalse, cond_true, cond_false, Option.bind_some, r1 (by omega), more_ok, moreB_f m1, hf]; rfl
    · have d5 : decide ((n : Int) ≥ 4) = false := decide_eq_false (by omega)
      have hf : fstN a0 a1 a2 a3 n = (65533, 1) := by unfold fstN; rw [if_neg c0, if_neg (by omega), if_neg (by omega), if_neg (by omega)]
      simp only [d7, d5, gtrue, gfalse, cond_true, cond_false, Option.bind_some, hf]; rfl
  · have d7 : decide ((a0 : Int) < 245) = false := decide_eq_false (by omega)
    have hf : fstN a0 a1 a2 a3 n = (65533, 1) := by unfold fstN; rw [if_neg c0, if_neg (by omega), if_neg (by omega), if_neg (by omega)]
    simp only [d7, gtrue, gfalse, cond_true, cond_false, Option.bind_some, hf]; rfl

end Go.L

namespace Go.L
open Go Go.Pv
set_option maxRecDepth 100000

theorem fst_ok {l : List Int} (hl : ∀ v ∈ l, inR .u8 v = true) (h0 : l.length ≠ 0) (hn : l.length ≤ 100000) : ref05_First l = some ((((fst5 l).1 : Int), ((fst5 l).2 : Int), ()), ()) := by
  have hr : ∀ i, i < l.length → rdI l (i : Int) = some (((l.getD i 0).toNat : Nat) : Int) := by
    intro i hi
    have hv := u8_of (hl l[i] (List.getElem_mem hi))
    unfold rdI
    rw [if_pos (by omega), Int.toNat_natCast, List.getElem?_eq_getElem hi, List.getD_eq_getElem?_getD, List.getElem?_eq_getElem hi, Option.getD_some]
    congr 1
    omega
  have hb : ∀ i, (l.getD i 0).toNat < 256 := by
    intro i
    by_cases hi : i < l.length
    · have hv := u8_of (hl l[i] (List.getElem_mem hi))
      rw [List.getD_eq_getElem?_getD, List.getElem?_eq_getElem hi, Option.getD_some]
      omega
    · rw [List.getD_eq_getElem?_getD, List.getElem?_eq_none (by omega)]
      show (0 : Int).toNat < 256
      omega
  exact first_ok h0 hn (hr 0 (by omega)) (fun h => hr 1 (by omega)) (fun h => hr 2 (by omega)) (fun h => hr 3 (by omega)) (hb 0) (hb 1) (hb 2) (hb 3)

theorem runes_ok {s : List Int} (hs : ∀ v ∈ s, inR .u8 v = true) (hn : s.length ≤ 10000) : ref05_Runes s = some ((runes s, ()), ()) := by
  unfold ref05_Runes
  have main : ∀ (k : Nat) (l acc : List Int), l.length ≤ k → (∀ v ∈ l, inR .u8 v = true) → l.length ≤ 10000 → acc.length + l.length ≤ 10000 →
      loopR (fun (z : ((List Int) × (List Int) × Unit) × (Unit)) => ref05_Runes_s0 z.1.1 z.1.2.1) ((l, acc, ()), ()) = some ((acc ++ runes l, ()), ()) := by
    intro k
    induction k with
    | zero =>
      intro l acc hk hl _ _
      have h0 : l.length = 0 := by omega
      refine loopR_out ?_
      dsimp only
      unfold ref05_Runes_s0
      rw [decide_eq_false (by omega), cond_false, runes_nil h0, List.append_nil]
    | succ k ih =>
      intro l acc hk hl hn ha
      by_cases h0 : l.length = 0
      · refine loopR_out ?_
        dsimp only
        unfold ref05_Runes_s0
        rw [decide_eq_false (by omega), cond_false, runes_nil h0, List.append_nil]
      · have hw := fst5_w h0
        have hsub : subL l ((fst5 l).2 : Int) (l.length : Int) = some (l.drop (fst5 l).2) := by
          unfold subL
          rw [if_pos ⟨by omega, by omega, by omega⟩, Int.toNat_natCast, Int.toNat_natCast, List.take_length]
        have hroom : roomI 8 acc [((fst5 l).1 : Int)] = some (acc ++ [((fst5 l).1 : Int)]) := by
          unfold roomI
          rw [if_pos (by simp only [List.length_cons, List.length_nil]; omega)]
        refine loopR_on (y := ((l.drop (fst5 l).2, acc ++ [((fst5 l).1 : Int)], ()), ())) ?_ ?_
        · dsimp only
          unfold ref05_Runes_s0
          rw [decide_eq_true (by omega), cond_true, fst_ok hl h0 (by omega), Option.bind_some]
          dsimp only
          rw [hroom, Option.bind_some, hsub, Option.bind_some]
        · have := ih (l.drop (fst5 l).2) (acc ++ [((fst5 l).1 : Int)]) (by rw [List.length_drop]; omega) (fun v hv => hl v (List.mem_of_mem_drop hv)) (by rw [List.length_drop]; omega) (by rw [List.length_drop, List.length_append, List.length_singleton]; omega)
          rw [this, runes_cons h0, List.append_assoc]
          rfl
  exact main s.length s [] (Nat.le_refl _) hs hn (by simpa using hn)

def rngB (c lo hi : Int) : Bool := decide (lo ≤ c) && decide (c ≤ hi)
def letB (c : Int) : Bool := (rngB c 65 90 || rngB c 97 122 || decide (c = 95)) || (!(decide (c = 215) || decide (c = 247) || decide (c = 930)) && (rngB c 192 591 || rngB c 913 969 || rngB c 1024 1279))
def digB (c : Int) : Bool := rngB c 48 57

theorem rngB_ok (c lo hi : Int) : name_between c lo hi = some ((rngB c lo hi, ()), ()) := by
  unfold name_between rngB
  simp only [gsome, ge_iff_le]
  cases decide (lo ≤ c) <;> rfl

theorem Letter_ok (c : Int) : name_Letter c = some ((letB c, ()), ()) := by
  unfold name_Letter
  by_cases h1 : c = 215
  · subst h1; rfl
  by_cases h2 : c = 247
  · subst h2; rfl
  by_cases h3 : c = 930
  · subst h3; rfl
  unfold letB
  rw [decide_eq_false h1, decide_eq_false h2, decide_eq_false h3]
  simp only [rngB_ok, gsome, gtrue, gfalse, Bool.not_false, Bool.not_true, cond_true, cond_false, Option.bind_some, Bool.or_false, Bool.true_and]
  cases rngB c 65 90 <;> cases rngB c 97 122 <;> cases decide (c = 95) <;> cases rngB c 192 591 <;> cases rngB c 913 969 <;> cases rngB c 1024 1279 <;> rfl

theorem RLetter_ok (c : Int) : ref05_Letter c = some ((letB c, ()), ()) := by
  unfold ref05_Letter letB rngB
  simp only [gsome, ge_iff_le]
  cases decide (65 ≤ c) <;> cases decide (c ≤ 90) <;> cases decide (97 ≤ c) <;> cases decide (c ≤ 122) <;> cases decide (c = 95) <;> try rfl
  all_goals
    simp only [cond_true, cond_false, Bool.and_false, Bool.and_true, Bool.not_true, Bool.not_false, Bool.or_false, Bool.false_or, Bool.true_or, Bool.or_true, Bool.false_and, Bool.true_and]
    cases decide (c = 215) <;> cases decide (c = 247) <;> cases decide (c = 930) <;> try rfl
    all_goals cases decide (192 ≤ c) <;> cases decide (c ≤ 591) <;> cases decide (913 ≤ c) <;> cases decide (c ≤ 969) <;> cases decide (1024 ≤ c) <;> cases decide (c ≤ 1279) <;> rfl

theorem Digit_ok (c : Int) : name_Digit c = some ((digB c, ()), ()) := by
  unfold name_Digit digB
  rw [rngB_ok]; rfl

/-- may a rune stand in a name? -/
def okC (c : Int) : Bool := letB c || digB c || decide (c = 45) || decide (c = 46)
/-- may a row of runes be a name? -/
def mayR (l : List Int) : Bool := decide (1 ≤ l.length ∧ l.length ≤ 24) && letB (l.getD 0 0) && l.all okC
def mayS (s : List Int) : Bool := mayR (runes s)

theorem mayS_len {s : List Int} (h : mayS s = true) : 1 ≤ s.length ∧ s.length ≤ 96 := by
  unfold mayS mayR at h
  simp only [Bool.and_eq_true, decide_eq_true_eq] at h
  have := runs_len s.length s (Nat.le_refl _)
  have e : (runs s.length s).length = (runes s).length := rfl
  omega

/-- what the loop of May finds of runes behind n others -/
def tailM (n : Nat) (l : List Int) : Bool := decide (1 ≤ n + l.length ∧ n + l.length ≤ 24) && match l with
  | [] => true
  | c :: l => (letB c || (!decide (n = 0) && okC c)) && l.all okC

theorem tailM_cons (n : Nat) (c : Int) (l : List Int) : tailM n (c :: l) = ((letB c || (!decide (n = 0) && okC c)) && tailM (n + 1) l) := by
  unfold tailM
  have e : n + (c :: l).length = n + 1 + l.length := by rw [List.length_cons]; omega
  rw [e]
  cases l with
  | nil => simp only [List.all_nil, Bool.and_true]; rw [Bool.and_comm]
  | cons d l =>
    simp only [List.all_cons]
    have h1 : decide (n + 1 = 0) = false := decide_eq_false (by omega)
    have h2 : (letB d || (!decide (n + 1 = 0) && okC d)) = okC d := by
      rw [h1]
      unfold okC
      cases letB d <;> rfl
    rw [h2]
    cases (letB c || (!decide (n = 0) && okC c)) <;> simp

theorem may_name {s : List Int} (hs : ∀ v ∈ s, inR .u8 v = true) (hn : s.length ≤ 10000) : name_May s = some ((mayS s, ()), ()) := by
  unfold name_May
  have main0 : ∀ (n p : Nat), p = s.length → n ≤ p → loopR (fun (z : (Int × (List Int × Int) × Unit) × (Unit)) => name_May_s0 z.1.1 z.1.2.1) (((n : Int), (s, (p : Int)), ()), ()) = some ((tailM n (runes (s.drop p)), ()), ()) := by
    intro n p hp hnp
    have h0 : (s.drop p).length = 0 := by rw [List.length_drop]; omega
    rw [runes_nil h0]
    refine loopR_out ?_
    dsimp only
    unfold name_May_s0
    have hx : nextS (s, (p : Int)) = .inl () := by unfold nextS; rw [if_neg (by dsimp only; omega)]
    rw [hx]
    simp only [gsome]
    have hd : tailM n [] = decide (1 ≤ n ∧ n ≤ 24) := by unfold tailM; simp
    rw [hd, Bool.decide_and]
    have e1 : decide ((n : Int) ≥ 1) = decide (1 ≤ n) := decide_eq_decide.2 (by omega)
    have e2 : decide ((n : Int) ≤ 24) = decide (n ≤ 24) := decide_eq_decide.2 (by omega)
    rw [e1, e2]
    cases decide (1 ≤ n) <;> cases decide (n ≤ 24) <;> rfl
  have main : ∀ (k n p : Nat), s.length - p ≤ k → p ≤ s.length → n ≤ p →
      loopR (fun (z : (Int × (List Int × Int) × Unit) × (Unit)) => name_May_s0 z.1.1 z.1.2.1) (((n : Int), (s, (p : Int)), ()), ()) = some ((tailM n (runes (s.drop p)), ()), ()) := by
    intro k
    induction k with
    | zero =>
      intro n p hk hp hnp
      exact main0 n p (by omega) hnp
    | succ k ih =>
      intro n p hk hp hnp
      by_cases hlt : p < s.length
      · have h0 : (s.drop p).length ≠ 0 := by rw [List.length_drop]; omega
        have hw := fst5_w h0
        rw [List.length_drop] at hw
        have hx : nextS (s, (p : Int)) = .inr (((fst5 (s.drop p)).1 : Int), ((p + (fst5 (s.drop p)).2 : Nat) : Int)) := by
          unfold nextS
          rw [if_pos (by dsimp only; omega), runeAt_fst hs hlt]
          rfl
        rw [runes_cons h0, tailM_cons, List.drop_drop]
        have ih := ih (n + 1) (p + (fst5 (s.drop p)).2) (by omega) (by omega) (by omega)
        generalize ((fst5 (s.drop p)).1 : Int) = c at *
        generalize p + (fst5 (s.drop p)).2 = q at *
        have hdn : decide ((n : Int) = 0) = decide (n = 0) := decide_eq_decide.2 (by omega)
        have hwr : IntKind.i64.wrap ((n : Int) + 1) = ((n + 1 : Nat) : Int) := wi64 (by omega)
        have go : (letB c || (!decide (n = 0) && okC c)) = true → loopR (fun (z : (Int × (List Int × Int) × Unit) × (Unit)) => name_May_s0 z.1.1 z.1.2.1) (((n : Int), (s, (p : Int)), ()), ()) = some ((tailM (n + 1) (runes (s.drop q)), ()), ()) := by
          intro hok
          refine loopR_on (y := ((((n + 1 : Nat) : Int), (s, (q : Int)), ()), ())) ?_ ih
          dsimp only
          unfold name_May_s0
          rw [hx]
          dsimp only
          rw [Letter_ok, Option.bind_some, hdn, hwr]
          simp only [Digit_ok]
          unfold okC at hok
          cases hL : letB c with
          | true => simp only [Bool.not_true, gfalse, Bool.false_and, cond_false]
          | false =>
            rw [hL] at hok
            simp only [Bool.false_or] at hok
            cases hD : decide (n = 0) with
            | true => rw [hD] at hok; cases hok
            | false =>
              rw [hD] at hok
              simp only [Bool.not_false, Bool.true_and] at hok
              cases hG : digB c with
              | true => simp only [Bool.not_true, Bool.not_false, gfalse, gtrue, Bool.and_self, Bool.and_false, Bool.true_and, Bool.false_and, Option.bind_some, cond_false, cond_true, hG]
              | false =>
                rw [hG] at hok
                simp only [Bool.false_or] at hok
                cases h45 : decide (c = 45) with
                | true => simp only [Bool.not_true, Bool.not_false, gfalse, gtrue, Bool.and_self, Bool.and_false, Bool.true_and, Bool.false_and, Option.bind_some, cond_false, cond_true, hG, h45]
                | false =>
                  rw [h45] at hok
                  simp only [Bool.false_or] at hok
                  simp only [Bool.not_true, Bool.not_false, gfalse, gtrue, Bool.and_self, Bool.and_false, Bool.true_and, Bool.false_and, Option.bind_some, cond_false, cond_true, hG, h45, hok]
        cases hok : (letB c || (!decide (n = 0) && okC c)) with
        | true => rw [Bool.true_and]; exact go hok
        | false =>
          rw [Bool.false_and]
          refine loopR_out ?_
          dsimp only
          unfold name_May_s0
          rw [hx]
          dsimp only
          rw [Letter_ok, Option.bind_some, hdn]
          simp only [Digit_ok]
          unfold okC at hok
          simp only [Bool.or_eq_false_iff, Bool.and_eq_false_iff] at hok
          obtain ⟨hL, hok⟩ := hok
          rw [hL]
          rcases hok with hD | ⟨⟨⟨_, hG⟩, h45⟩, h46⟩
          · have hD : decide (n = 0) = true := by revert hD; cases decide (n = 0) <;> simp
            simp only [hD, Bool.not_true, Bool.not_false, gfalse, gtrue, Bool.and_self, Bool.and_false, Bool.true_and, Bool.false_and, Option.bind_some, cond_false, cond_true]
          · cases hD : decide (n = 0) with
            | true => simp only [Bool.not_true, Bool.not_false, gfalse, gtrue, Bool.and_self, Bool.and_false, Bool.true_and, Bool.false_and, Option.bind_some, cond_false, cond_true]
            | false => simp only [Bool.not_true, Bool.not_false, gfalse, gtrue, Bool.and_self, Bool.and_false, Bool.true_and, Bool.false_and, Option.bind_some, cond_false, cond_true, hG, h45, h46]
      · have hp2 : p = s.length := by omega
        exact main0 n p hp2 hnp
  have h := main s.length 0 0 (by omega) (by omega) (Nat.le_refl _)
  rw [List.drop_zero] at h
  refine Eq.trans h ?_
  congr 3
  unfold tailM mayS mayR
  cases runes s with
  | nil => simp
  | cons c l =>
    simp only [Nat.zero_add, decide_true, Bool.not_true, Bool.false_and, Bool.or_false, List.getD_cons_zero, List.all_cons]
    have : okC c = true ∨ letB c = false := by unfold okC; cases letB c <;> simp
    rcases this with h | h
    · rw [h]; simp [Bool.and_assoc]
    · rw [h]; simp

theorem may_ref {s : List Int} (hs : ∀ v ∈ s, inR .u8 v = true) (hn : s.length ≤ 10000) : ref05_May s = some ((mayS s, ()), ()) := by
  have hrl := runs_len s.length s (Nat.le_refl _)
  have hre : (runs s.length s).length = (runes s).length := rfl
  unfold ref05_May
  rw [runes_ok hs hn, Option.bind_some]
  unfold mayS mayR
  dsimp only
  generalize runes s = l at *
  by_cases h1 : l.length < 1
  · have h0 : l = [] := List.eq_nil_of_length_eq_zero (by omega)
    subst h0
    rfl
  · rw [decide_eq_false (show ¬ ((l.length : Int) < 1) by omega)]
    simp only [Bool.not_false, gtrue, Option.bind_some, cond_false, gsome, cond_true]
    by_cases h2 : l.length > 24
    · rw [decide_eq_true (show (l.length : Int) > 24 by omega), decide_eq_false (show ¬ (1 ≤ l.length ∧ l.length ≤ 24) by omega)]
      simp only [Bool.not_true, gfalse, cond_true, Bool.false_and]
    · rw [decide_eq_false (show ¬ (l.length : Int) > 24 by omega), decide_eq_true (show (1 ≤ l.length ∧ l.length ≤ 24) by omega)]
      have hck : Option.map (fun _ => (0 : Int)) (ckI 0 l.length) = some 0 := by
        unfold ckI
        rw [if_pos ⟨by omega, by omega⟩]; rfl
      have hr0 : rdI l 0 = some (l.getD 0 0) := by
        unfold rdI
        rw [if_pos (by omega), List.getD_eq_getElem?_getD]
        show l[0]? = _
        rw [List.getElem?_eq_getElem (show 0 < l.length by omega), Option.getD_some]
      simp only [Bool.not_false, gtrue, Option.bind_some, cond_false, gsome, cond_true, hck, hr0, RLetter_ok, Bool.true_and]
      cases hL : letB (l.getD 0 0) with
      | false => rfl
      | true =>
        simp only [Bool.not_true, cond_false, Bool.true_and]
        have hrd : ∀ (i : Nat) (h : i < l.length), rdI l (i : Int) = some l[i] := by
          intro i h
          unfold rdI
          rw [if_pos (by omega), Int.toNat_natCast, List.getElem?_eq_getElem h]
        have hcki : ∀ (i : Nat) (h : i < l.length), Option.map (fun _ => (i : Int)) (ckI (i : Int) l.length) = some (i : Int) := by
          intro i h
          unfold ckI
          rw [if_pos ⟨by omega, by omega⟩]; rfl
        have main : ∀ (k i : Nat), l.length - i = k → i ≤ l.length → loopR (fun (z : ((List Int) × Int × Unit) × (Unit)) => ref05_May_s0 z.1.1 z.1.2.1) ((l, (i : Int), ()), ()) = some (((l.drop i).all okC, ()), ()) := by
          intro k
          induction k with
          | zero =>
            intro i hk hi
            have hi2 : i = l.length := by omega
            subst hi2
            refine loopR_out ?_
            dsimp only
            unfold ref05_May_s0
            rw [decide_eq_false (by omega), cond_false, List.drop_length]
            rfl
          | succ k ih =>
            intro i hk hi
            have hil : i < l.length := by omega
            have hd : l.drop i = l[i] :: l.drop (i + 1) := List.drop_eq_getElem_cons hil
            rw [hd, List.all_cons]
            have hgd : (decide ((48 : Int) ≤ l[i]) && decide (l[i] ≤ 57)) = digB l[i] := rfl
            have step : ref05_May_s0 l (i : Int) = bif okC l[i] then some (.inl ((l, ((i + 1 : Nat) : Int), ()), ())) else some (.inr ((false, ()), ())) := by
              unfold ref05_May_s0
              rw [decide_eq_true (by omega), cond_true]
              have hck := hcki i hil
              have hrr := hrd i hil
              have hwi := wi64 (show i < 1000000000 by omega)
              unfold okC
              rw [← hgd]
              cases hL : letB l[i] <;> cases h48 : decide ((48 : Int) ≤ l[i]) <;> cases h57 : decide (l[i] ≤ 57) <;> cases h45 : decide (l[i] = 45) <;> cases h46 : decide (l[i] = 46) <;>
                simp only [hck, hrr, hwi, RLetter_ok, hL, h48, h57, h45, h46, ge_iff_le, gtrue, gfalse, Option.bind_some, cond_true, cond_false, Bool.not_true, Bool.not_false, Bool.true_and, Bool.false_and, Bool.and_true, Bool.and_false, Bool.true_or, Bool.false_or, Bool.or_true, Bool.or_false]
            cases hok : okC l[i] with
            | true =>
              rw [hok, cond_true] at step
              rw [Bool.true_and]
              exact loopR_on step (ih (i + 1) (by omega) (by omega))
            | false =>
              rw [hok, cond_false] at step
              rw [Bool.false_and]
              exact loopR_out step
        exact main l.length 0 (by omega) (by omega)

end Go.L

namespace Go.L
open Go Go.Pv
set_option maxRecDepth 100000

theorem four_rd {b : List Int} {s : Sta} {most : Int} (hb : okB b) (ha : s.1 ≤ b.length) : wire_Reader_Four_e57 (rd b (s.1 : Int) s.2) most = some (((rdNum b s.1 s.2 4 most).1, ()), rd b ((rdNum b s.1 s.2 4 most).2.1 : Int) (rdNum b s.1 s.2 4 most).2.2, ()) := by
  have hl := hb.len
  have h : wire_Reader_number_28a (rd b (s.1 : Int) s.2) 4 most = _ := number_ok (k := 4) (by omega) hb.u8 ha (by omega)
  unfold wire_Reader_Four_e57
  show (wire_Reader_number_28a (rd b (s.1 : Int) s.2) 4 most).bind _ = _
  rw [h]; rfl

/-- reading a name -/
def rdName (b : List Int) (s : Sta) : List Int × Sta :=
  match s.2 with
  | some f => ([], s.1, some f)
  | none => if s.1 + 1 ≤ b.length then
      (if s.1 + 1 + beN ((b.drop s.1).take 1) ≤ b.length then
        (if mayS ((b.drop (s.1 + 1)).take (beN ((b.drop s.1).take 1))) = true then ((b.drop (s.1 + 1)).take (beN ((b.drop s.1).take 1)), s.1 + 1 + beN ((b.drop s.1).take 1), none) else ([], s.1, some (4, (s.1 : Int), ())))
       else ([], s.1, some (3, (s.1 : Int), ())))
    else ([], s.1, some (3, (s.1 : Int), ()))

theorem okT.name {b : List Int} {s : Sta} (h : okT b s) : okT b (rdName b s).2 := by
  obtain ⟨a, f⟩ := s
  unfold rdName
  cases f with
  | some f => exact h
  | none =>
    dsimp only
    split
    · split
      · split
        · exact ⟨by dsimp only; omega, okF_none⟩
        · exact ⟨h.1, okF_some (by omega)⟩
      · exact ⟨h.1, okF_some (by omega)⟩
    · exact ⟨h.1, okF_some (by omega)⟩

theorem name_rd {b : List Int} {s : Sta} (hb : okB b) (h : okT b s) : wire_Reader_Name_59d (rd b (s.1 : Int) s.2) = some (((rdName b s).1, ()), rd b ((rdName b s).2.1 : Int) (rdName b s).2.2, ()) := by
  have hlen := hb.len
  obtain ⟨a, f⟩ := s
  have ha := h.1
  dsimp only at ha
  unfold wire_Reader_Name_59d
  have h1 : wire_Reader_Byte_e57 (((rd b (a : Int) f).1.1, (rd b (a : Int) f).1.2.1, (rd b (a : Int) f).1.2.2.1, ()), ()) 255 = _ := byte_rd (s := (a, f)) hb ha
  rw [h1, Option.bind_some]
  unfold rdName
  cases f with
  | some f =>
    have : rdNum b a (some f) 1 255 = (0, a, some f) := rfl
    dsimp only
    rw [this]
    have ht : wire_cursor_take_c4f (b, (a : Int), some f, ()) 0 = _ := take_c4f (k := 0) (some f) (by omega) ha
    dsimp only
    rw [ht, Option.bind_some]
    rfl
  | none =>
    dsimp only
    by_cases hA : a + 1 ≤ b.length
    · rw [rdNum1 hb hA, if_pos hA]
      generalize hw : beN ((b.drop a).take 1) = w
      have ht : wire_cursor_take_c4f (b, ((a + 1 : Nat) : Int), none, ()) (w : Int) = _ := take_c4f (k := w) none (by omega) hA
      dsimp only
      rw [ht, Option.bind_some]
      by_cases hk : a + 1 + w ≤ b.length
      · have hpl : ((b.drop (a + 1)).take w).length ≤ 10000 := by
          have := one_lt hb a
          rw [List.length_take]
          omega
        rw [if_pos hk, decide_eq_true hk]
        simp only [Option.isNone_none, Bool.and_self, cond_true, Bool.not_true, cond_false]
        rw [may_name (mem_part hb.u8) hpl, Option.bind_some]
        dsimp only
        cases hm : mayS ((b.drop (a + 1)).take w) with
        | true =>
          rw [if_pos rfl]
          rfl
        | false =>
          rw [if_neg (by simp), Bool.not_false, cond_true, back_none b _ 4 _ (by omega)]
          rfl
      · rw [if_neg hk, decide_eq_false hk]
        simp only [Option.isNone_none, Bool.and_false, cond_false, Bool.not_false, cond_true]
        rw [back_none b _ 3 _ (by omega)]
        rfl
    · rw [rdNum0 hA, if_neg hA]
      have ht : wire_cursor_take_c4f (b, (a : Int), some (3, (a : Int), ()), ()) 0 = _ := take_c4f (k := 0) (some (3, (a : Int), ())) (by omega) ha
      dsimp only
      rw [ht, Option.bind_some]
      rfl

def nameV (s : List Int) : Prop := mayS s = true ∧ ∀ v ∈ s, inR .u8 v = true

theorem codec_name {b : List Int} (hb : okB b) : Codec b (rdName b) nameV encName where
  stick s f hf := by
    obtain ⟨a, g⟩ := s
    obtain rfl : g = some f := hf
    rfl
  enc x a hV ha hp := by
    obtain ⟨k1, k2⟩ := hV
    have hx := mayS_len k1
    have he : encName x = [(x.length : Int)] ++ x := by unfold encName; rw [if_pos (by omega)]; rfl
    rw [he] at hp ⊢
    obtain ⟨p1, p2⟩ := pre_drop hp
    have hl := pre_len hp
    rw [List.length_append, List.length_drop, List.length_singleton] at hl
    rw [List.drop_drop, List.length_singleton] at p2
    have t1 := take_pre p1 rfl
    have t2 := take_pre p2 rfl
    rw [List.length_singleton] at t1
    have b1 := beN1 (v := (x.length : Int)) (by omega)
    rw [Int.toNat_natCast] at b1
    unfold rdName
    dsimp only
    rw [if_pos (by omega), t1, b1, if_pos (by omega), t2, if_pos k1, List.length_append, List.length_singleton, Nat.add_assoc]
  cut x a hV ha hp hl := by
    obtain ⟨k1, k2⟩ := hV
    have hx := mayS_len k1
    have he : encName x = [(x.length : Int)] ++ x := by unfold encName; rw [if_pos (by omega)]; rfl
    rw [he] at hp hl
    rw [List.length_append, List.length_drop, List.length_singleton] at hl
    refine ⟨a, ?_, ha⟩
    unfold rdName
    dsimp only
    by_cases hA : a + 1 ≤ b.length
    · have t1 : (b.drop a).take 1 = [(x.length : Int)] := by
        have h3 : [(x.length : Int)] <+: b.drop a := List.prefix_of_prefix_length_le (List.prefix_append _ _) hp (by rw [List.length_drop, List.length_singleton]; omega)
        exact take_pre h3 rfl
      have b1 := beN1 (v := (x.length : Int)) (by omega)
      rw [Int.toNat_natCast] at b1
      rw [if_pos hA, t1, b1, if_neg (by omega)]
    · rw [if_neg hA]
  dec a ha hn := by
    unfold rdName at hn ⊢
    dsimp only at hn ⊢
    by_cases hA : a + 1 ≤ b.length
    · rw [if_pos hA] at hn ⊢
      have hlk : ((b.drop a).take 1).length = 1 := by rw [List.length_take, List.length_drop]; omega
      have hbe := be_beN 1 _ hlk (mem_part hb.u8)
      have hlt := one_lt hb a
      generalize beN ((b.drop a).take 1) = w at *
      by_cases hk : a + 1 + w ≤ b.length
      · rw [if_pos hk] at hn ⊢
        by_cases hm : mayS ((b.drop (a + 1)).take w) = true
        · rw [if_pos hm] at hn ⊢
          have h1 : be w 1 = [(w : Int)] := by
            have := be1 (n := (w : Int)) (by omega) (by omega)
            rw [nat64_nat (by omega)] at this
            exact this
          have hlk2 : ((b.drop (a + 1)).take w).length = w := by rw [List.length_take, List.length_drop]; omega
          have he : encName ((b.drop (a + 1)).take w) = (b.drop a).take (1 + w) := by
            unfold encName
            rw [hlk2, if_pos (by omega), List.take_add, List.drop_drop, ← hbe, h1]
            rfl
          dsimp only
          rw [he]
          refine ⟨⟨hm, mem_part hb.u8⟩, List.take_prefix _ _, ?_⟩
          rw [List.length_take, List.length_drop]; omega
        · rw [if_neg hm] at hn; cases hn
      · rw [if_neg hk] at hn; cases hn
    · rw [if_neg hA] at hn; cases hn

end Go.L

namespace Go.L
open Go Go.Pv
set_option maxRecDepth 100000

abbrev K4 := Int × Int × Int × Unit
abbrev Slot := Bool × (K4 × Int × Unit) × Unit
def sZ : Slot := (false, ((0, 0, 0, ()), 0, ()), ())
def sl (l : List Slot) (i : Nat) : Slot := l.getD i sZ
def us (l : List Slot) (i : Nat) : Bool := (sl l i).1
def ky (l : List Slot) (i : Nat) : K4 := (sl l i).2.1.1

/-- how far it is to another slot, going round -/
def ds (s a b : Nat) : Nat := if a ≤ b then b - a else b + s - a
def nx (s i : Nat) : Nat := if i + 1 = s then 0 else i + 1

/-! ### where a row would lie -/
def hstep (h v : Int) : Int := bitsI .xor .u64 (IntKind.u64.wrap (bitsI .xor .u64 h v * 1099511628211)) ((IntKind.u64.wrap (bitsI .xor .u64 h v * 1099511628211)).fdiv (2 ^ 32))
def hsh (k : K4) : Int := hstep (hstep (hstep 14695981039346656037 (IntKind.u64.wrap k.1)) k.2.1) k.2.2.1
def hm (s : Nat) (k : K4) : Nat := (hsh k).toNat % s

end Go.L

namespace Go.L
open Go Go.Pv
set_option maxRecDepth 100000

/-- what a map keeps -/
structure Ivt (most n : Nat) (l : List Slot) : Prop where
  m1 : 1 ≤ most
  big : 2 * most ≤ l.length
  sm : l.length ≤ 1024
  cnt : l.countP (·.1) = n
  nm : n ≤ most
  emp : ∀ i, i < l.length → us l i = false → sl l i = sZ
  dis : ∀ i j, i < l.length → j < l.length → us l i = true → us l j = true → ky l i = ky l j → i = j
  rch : ∀ k, k < l.length → us l k = true → ∀ x, x < l.length → ds l.length (hm l.length (ky l k)) x < ds l.length (hm l.length (ky l k)) k → us l x = true

def has (l : List Slot) (k : K4) (v : Int) : Prop := ∃ i, i < l.length ∧ sl l i = (true, (k, v, ()), ())

end Go.L

namespace Go.L
open Go Go.Pv
set_option maxRecDepth 100000

/-- how far behind a slot, going round -/
def cc (s e x : Nat) : Nat := ds s (nx s e) x

/-- what a row of slots keeps while things move up to a gap -/
structure Cls (s e g i : Nat) (l : List Slot) : Prop where
  len : l.length = s
  e_lt : e < s
  g_lt : g < s
  i_lt : i < s
  ue : us l e = false
  ug : us l g = false
  ge : g ≠ e
  gi : cc s e g < cc s e i
  emp : ∀ x, x < s → us l x = false → sl l x = sZ
  dis : ∀ x y, x < s → y < s → us l x = true → us l y = true → ky l x = ky l y → x = y
  h1 : ∀ k, k < s → us l k = true → cc s e (hm s (ky l k)) ≤ cc s e k ∧ ∀ x, x < s → cc s e (hm s (ky l k)) ≤ cc s e x → cc s e x < cc s e k → us l x = true ∨ x = g
  h2 : ∀ k, k < s → us l k = true → cc s e g < cc s e k → cc s e k < cc s e i → cc s e g < cc s e (hm s (ky l k))

structure Cld (s e : Nat) (l l' : List Slot) : Prop where
  len : l'.length = s
  ue : us l' e = false
  cnt : l'.countP (·.1) = l.countP (·.1)
  emp : ∀ x, x < s → us l' x = false → sl l' x = sZ
  dis : ∀ x y, x < s → y < s → us l' x = true → us l' y = true → ky l' x = ky l' y → x = y
  h1 : ∀ k, k < s → us l' k = true → cc s e (hm s (ky l' k)) ≤ cc s e k ∧ ∀ x, x < s → cc s e (hm s (ky l' k)) ≤ cc s e x → cc s e x < cc s e k → us l' x = true
  has : ∀ k v, has l' k v ↔ has l k v

end Go.L

namespace Go.L
open Go Go.Pv
set_option maxRecDepth 100000

theorem loop_inv {σ ρ : Type} {f : σ → Option (σ ⊕ ρ)} {P : Nat → σ → Prop} {n : Nat} {r : ρ} (step : ∀ i x, i < n → P i x → ∃ y, f x = some (.inl y) ∧ P (i + 1) y) (stop : ∀ x, P n x → f x = some (.inr r)) : ∀ k i x, n - i = k → i ≤ n → P i x → loopR f x = some r := by
  intro k
  induction k with
  | zero =>
    intro i x hk hi hp
    have : i = n := by omega
    subst this
    exact loopR_out (stop x hp)
  | succ k ih =>
    intro i x hk hi hp
    obtain ⟨y, h1, h2⟩ := step i x (by omega) hp
    exact loopR_on h1 (ih (i + 1) y (by omega) (by omega) h2)

end Go.L
