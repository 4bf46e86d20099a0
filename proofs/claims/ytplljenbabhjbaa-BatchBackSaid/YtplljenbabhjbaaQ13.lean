/- The functions that the statements reach as plain Lean, and what they compute. -/
import Derived.Test.YtplljenbabhjbaaQ12

set_option linter.unusedSimpArgs false
set_option linter.unusedVariables false

namespace Go.L
open Go Go.Pv
set_option maxRecDepth 100000

theorem or_byte {n v : Nat} (hn : n < 1000000000000) (hv : v < 256) : bitsI .or .i64 (IntKind.i64.wrap ((n : Int) * 2 ^ 8)) (IntKind.i64.wrap (v : Int)) = ((n * 256 + v : Nat) : Int) := by
  have e1 : IntKind.i64.wrap ((n : Int) * 2 ^ 8) = ((n * 256 : Nat) : Int) := by
    rw [wrap_i64 (by omega) (by omega)]; omega
  have e2 : IntKind.i64.wrap (v : Int) = ((v : Nat) : Int) := wrap_i64 (by omega) (by omega)
  rw [e1, e2]
  have h3 : (BitVec.ofInt 64 ((n * 256 : Nat) : Int) ||| BitVec.ofInt 64 ((v : Nat) : Int)).toNat = n * 256 + v := by
    rw [BitVec.ofInt_natCast, BitVec.ofInt_natCast, BitVec.toNat_or, BitVec.toNat_ofNat, BitVec.toNat_ofNat, Nat.mod_eq_of_lt (by omega), Nat.mod_eq_of_lt (by omega)]
    have := Nat.shiftLeft_add_eq_or_of_lt (i := 8) (show v < 2 ^ 8 by omega) n
    rw [Nat.shiftLeft_eq] at this
    exact this.symm
  show IntKind.i64.wrap ((BitVec.ofInt 64 ((n * 256 : Nat) : Int) ||| BitVec.ofInt 64 ((v : Nat) : Int)).toNat : Int) = _
  rw [h3, wrap_i64 (by omega) (by omega)]

abbrev Flt := Option (Int × Int × Unit)
/-- a reader: bytes, how many are taken, the first fault -/
abbrev Rdr := ((List Int) × Int × Flt × Unit) × Unit
abbrev rd (b : List Int) (at_ : Int) (f : Flt) : Rdr := ((b, at_, f, ()), ())

/-- the number of bytes, the highest first -/
def beN (l : List Int) : Nat := l.foldl (fun n v => n * 256 + v.toNat) 0

theorem beN_snoc (l : List Int) (v : Int) : beN (l ++ [v]) = beN l * 256 + v.toNat := by unfold beN; rw [List.foldl_append]; rfl

theorem fold_lt : ∀ (l : List Int) (n : Nat), (∀ v ∈ l, inR .u8 v = true) → l.foldl (fun n v => n * 256 + v.toNat) n < (n + 1) * 256 ^ l.length
  | [], n, _ => by simp
  | v :: l, n, h => by
    have h1 := fold_lt l (n * 256 + v.toNat) fun v hv => h v (by simp [hv])
    have h2 := u8_of (h v (by simp))
    have h3 : (n * 256 + v.toNat + 1) * 256 ^ l.length ≤ ((n + 1) * 256) * 256 ^ l.length := Nat.mul_le_mul_right _ (by omega)
    rw [List.foldl_cons, List.length_cons, Nat.pow_succ, Nat.mul_comm (256 ^ l.length) 256, ← Nat.mul_assoc]
    exact Nat.lt_of_lt_of_le h1 h3

theorem beN_lt (l : List Int) (h : ∀ v ∈ l, inR .u8 v = true) : beN l < 256 ^ l.length := by
  have := fold_lt l 0 h
  unfold beN
  simpa using this

theorem fail_ba6 (b : List Int) (a : Int) (f : Flt) (e p : Int) : wire_cursor_fail_ba6 (b, a, f, ()) e p = some ((), (b, a, (bif f.isNone && !decide (e = 0) then some (e, p, ()) else f), ()), ()) := by
  unfold wire_cursor_fail_ba6
  cases f with
  | none => cases decide (e = 0) <;> rfl
  | some f => rfl

theorem take_c4f {b : List Int} {at_ k : Nat} (f : Flt) (hb : b.length ≤ 1000000) (ha : at_ ≤ b.length) : wire_cursor_take_c4f (b, (at_ : Int), f, ()) (k : Int) =
    some ((bif f.isNone && decide (at_ + k ≤ b.length) then ((((b.drop at_).take k, true, ()), ((b, ((at_ + k : Nat) : Int), f, ()), ()))) else (([], false, ()), ((b, (at_ : Int), f, ()), ())))) := by
  unfold wire_cursor_take_c4f
  cases f with
  | some f => rfl
  | none =>
    have e1 : IntKind.i64.wrap ((b.length : Int) - (at_ : Int)) = (b.length : Int) - (at_ : Int) := wrap_i64 (by omega) (by omega)
    simp only [Option.isNone_none, Bool.not_true, Bool.not_false, gsome, cond_true, cond_false, e1, Bool.true_and]
    by_cases h : at_ + k ≤ b.length
    · have e2 : IntKind.i64.wrap ((at_ : Int) + (k : Int)) = ((at_ + k : Nat) : Int) := by rw [wrap_i64 (by omega) (by omega)]; omega
      have e3 : IntKind.i64.wrap (((at_ + k : Nat) : Int) - (k : Int)) = (at_ : Int) := by rw [wrap_i64 (by omega) (by omega)]; omega
      rw [decide_eq_true h, decide_eq_false (show ¬ ((k : Int) > (b.length : Int) - (at_ : Int)) by omega), cond_false, cond_true, e2, e3]
      have hs : subL b (at_ : Int) ((at_ + k : Nat) : Int) = some ((b.drop at_).take k) := by
        unfold subL
        rw [if_pos ⟨by omega, by omega, by omega⟩]
        congr 1
        rw [Int.toNat_natCast, Int.toNat_natCast, List.drop_take, Nat.add_sub_cancel_left]
      rw [hs]; rfl
    · rw [decide_eq_false h, decide_eq_true (show ((k : Int) > (b.length : Int) - (at_ : Int)) by omega)]
      rfl

/-- reading a number: what it is, and the reader then -/
def rdNum (b : List Int) (at_ : Nat) (f : Flt) (k : Nat) (most : Int) : Int × Nat × Flt :=
  match f with
  | some f => (0, at_, some f)
  | none => if at_ + k ≤ b.length then (if (beN ((b.drop at_).take k) : Int) > most then (0, at_, some (7, (at_ : Int), ())) else ((beN ((b.drop at_).take k) : Int), at_ + k, none)) else (0, at_, some (3, (at_ : Int), ()))

theorem number_ok {b : List Int} {at_ k : Nat} {f : Flt} {most : Int} (hb : b.length ≤ 1000000) (hu : ∀ v ∈ b, inR .u8 v = true) (ha : at_ ≤ b.length) (hk : k ≤ 4) :
    wire_Reader_number_28a (rd b (at_ : Int) f) (k : Int) most = some (((rdNum b at_ f k most).1, ()), rd b ((rdNum b at_ f k most).2.1 : Int) (rdNum b at_ f k most).2.2, ()) := by
  unfold wire_Reader_number_28a
  simp only [rd, take_c4f f hb ha, Option.bind_some]
  cases f with
  | some f => rfl
  | none =>
    simp only [Option.isNone_none, Bool.true_and, rdNum]
    by_cases h : at_ + k ≤ b.length
    · rw [decide_eq_true h, if_pos h]
      simp only [cond_true, Bool.not_true, cond_false]
      have hl : ((b.drop at_).take k).length = k := by rw [List.length_take, List.length_drop]; omega
      have hm : ∀ v ∈ (b.drop at_).take k, inR .u8 v = true := fun v hv => hu v (List.mem_of_mem_drop (List.mem_of_mem_take hv))
      generalize (b.drop at_).take k = l at hl hm
      subst hl
      have key := loop_up (f := fun (z : (Int × Int × Int × (List Int) × Int × Int × Unit) × ((((List Int) × Int × Flt × Unit) × Unit) × Unit)) => wire_Reader_number_28a_s0 z.1.1 z.1.2.1 z.1.2.2.1 z.1.2.2.2.1 z.1.2.2.2.2.1 z.1.2.2.2.2.2.1 z.2.1)
        (fun i => ((most, (at_ : Int), (beN (l.take i) : Int), l, (l.length : Int), (i : Int), ()), (rd b ((at_ + l.length : Nat) : Int) none, ()))) l.length
        (r := ((if (beN l : Int) > most then (0, ()) else ((beN l : Int), ())), (if (beN l : Int) > most then rd b (at_ : Int) (some (7, (at_ : Int), ())) else rd b ((at_ + l.length : Nat) : Int) none), ()))
        (fun i hi => by
          dsimp only
          unfold wire_Reader_number_28a_s0
          rw [dlt hi, cond_true]
          have hv := u8_of (hm l[i] (List.getElem_mem hi))
          have hr : rdI l (i : Int) = some l[i] := by
            unfold rdI
            rw [if_pos (by omega), Int.toNat_natCast, List.getElem?_eq_getElem hi]
          rw [hr, Option.bind_some]
          have hlt := beN_lt (l.take i) fun v hv => hm v (List.mem_of_mem_take hv)
          have hp : 256 ^ (l.take i).length ≤ 256 ^ 3 := Nat.pow_le_pow_right (by omega) (by rw [List.length_take]; omega)
          have e : l[i] = ((l[i].toNat : Nat) : Int) := by omega
          have hb := or_byte (n := beN (l.take i)) (v := l[i].toNat) (by omega) (by omega)
          rw [e, hb, wi64 (by omega)]
          have ht : l.take (i + 1) = l.take i ++ [l[i]] := by rw [List.take_add_one, List.getElem?_eq_getElem hi]; rfl
          rw [ht, beN_snoc])
        (by
          dsimp only
          unfold wire_Reader_number_28a_s0
          rw [decide_eq_false (show ¬ ((l.length : Int) < (l.length : Int)) by omega), cond_false, List.take_length]
          by_cases hmo : (beN l : Int) > most
          · simp only [decide_eq_true hmo, cond_true, if_pos hmo, fail_ba6, Option.bind_some]
            rfl
          · simp only [decide_eq_false hmo, cond_false, if_neg hmo]
            rfl) 0 (Nat.zero_le _)
      simp only [List.take_zero] at key
      refine Eq.trans ?_ (key.trans ?_)
      · rfl
      · by_cases hmo : (beN l : Int) > most
        · simp only [if_pos hmo]
        · simp only [if_neg hmo]
    · rw [decide_eq_false h, if_neg h]
      simp only [cond_false, Bool.not_false, cond_true, fail_ba6, Option.bind_some]
      rfl

end Go.L

namespace Go.L
open Go Go.Pv
set_option maxRecDepth 100000

/-- what a letter counts; 16 where it is no digit -/
def dig (c : Int) : Nat := if 48 ≤ c ∧ c ≤ 57 then (c - 48).toNat else if 97 ≤ c ∧ c ≤ 102 then (c - 87).toNat else if 65 ≤ c ∧ c ≤ 70 then (c - 55).toNat else 16

/-- the number that letters spell; none where one of them is no digit -/
def val (b : Nat) : List Int → Nat → Option Nat
  | [], n => some n
  | c :: l, n => if b ≤ dig c then none else val b l (n * b + dig c)

/-- a word and a code: 4 for a letter that is no digit, 7 for too much -/
def read (b : Nat) (l : List Int) (n : Nat) : Nat × Int := match val b l n with
  | none => (0, 4)
  | some m => if 340282366920938463463374607431768211456 ≤ m then (0, 7) else (m, 0)

/-! ### the reference's -/
theorem zeros : ([false, false, false, false, false, false, false, false, false, false, false, false, false, false, false, false, false, false, false, false, false, false, false, false, false, false, false, false, false, false, false, false, false, false, false, false, false, false, false, false, false, false, false, false, false, false, false, false, false, false, false, false, false, false, false, false, false, false, false, false, false, false, false, false, false, false, false, false, false, false, false, false, false, false, false, false, false, false, false, false, false, false, false, false, false, false, false, false, false, false, false, false, false, false, false, false, false, false, false, false, false, false, false, false, false, false, false, false, false, false, false, false, false, false, false, false, false, false, false, false, false, false, false, false, false, false, false, false] : List Bool) = rowB (BitVec.ofNat 128 0) := by decide

end Go.L

namespace Go.L
open Go Go.Pv
set_option maxRecDepth 100000

/-- capital letters -/
def up (c : Int) : Int := if 97 ≤ c then c - 32 else c

end Go.L

namespace Go.L
open Go Go.Pv
set_option maxRecDepth 100000

theorem vec_Word_ok (w : Int) (x : Nat) : vec_Word (vw w x) = some ((wp x, ()), ()) := rfl
theorem vec_row_ok (w : Int) (x : Nat) : vec_row w (wp x) = some ((vw w x, ()), ()) := rfl

theorem width_ok (w : Int) : vec_width w = some ((decide (1 ≤ w ∧ w ≤ 128), ()), ()) := by
  unfold vec_width
  simp only [gsome]
  by_cases h : 1 ≤ w ∧ w ≤ 128
  · rw [decide_eq_true (show w ≥ 1 from h.1), decide_eq_true h.2, decide_eq_true h]; rfl
  · rw [decide_eq_false h]
    by_cases h1 : w ≥ 1
    · rw [decide_eq_true h1, decide_eq_false (by omega)]; rfl
    · rw [decide_eq_false h1]; rfl

theorem vec_Cut_ok {w : Int} {x : Nat} (h1 : 1 ≤ w) (h2 : w ≤ 128) (hx : x < 340282366920938463463374607431768211456) : vec_Cut w (wp x) = some ((vw w (x % 2 ^ w.toNat), 0, ()), ()) := by
  unfold vec_Cut
  have hpa : ((wp x).1, (wp x).2.1, ()) = wp x := rfl
  have h128 : 2 ^ min w.toNat 128 - 1 < 340282366920938463463374607431768211456 := by
    have := Nat.pow_le_pow_right (n := 2) (by omega) (Nat.min_le_right w.toNat 128)
    rw [show 2 ^ 128 = 340282366920938463463374607431768211456 from rfl] at this
    omega
  rw [width_ok, Option.bind_some, decide_eq_true (show 1 ≤ w ∧ w ≤ 128 from ⟨h1, h2⟩), Bool.not_true, cond_false, word_Ones_ok, Option.bind_some, hpa]
  dsimp only
  rw [word_And_ok hx h128, Option.bind_some]
  dsimp only
  rw [vec_row_ok, Option.bind_some, Nat.min_eq_left (show w.toNat ≤ 128 by omega), Nat.and_two_pow_sub_one_eq_mod]

theorem may_lt {w : Int} {x : Nat} (h : may w x = true) : x < 2 ^ w.toNat := by
  have hm := of_decide_eq_true h
  exact Nat.lt_of_lt_of_le (bitLen_spec x).1 (Nat.pow_le_pow_right (by omega) (by omega))

theorem halves_wp {y : Nat} (hy : y < 340282366920938463463374607431768211456) : ref01_Halves (rowB (BitVec.ofNat 128 y)) = some (((wp y).1, (wp y).2.1, ()), ()) := by
  have h := ref01_Halves_ok (hi := y / 18446744073709551616) (lo := y % 18446744073709551616) (by omega) (Nat.mod_lt _ (by omega))
  have e : wd (y / 18446744073709551616) (y % 18446744073709551616) = BitVec.ofNat 128 y := by
    unfold wd
    congr 1
    omega
  rw [e] at h
  exact h

theorem ref02_Of_ok {n X : Nat} (hn : n ≤ 128) : ref02_Of (lrow n X.testBit) = some ((vw (n : Int) (X % 2 ^ n), ()), ()) := by
  unfold ref02_Of
  rw [← bld_zero X.testBit]
  refine loop_up (fun i => (((lrow n X.testBit, (i : Int), ()), (0, 0, 0, ()), bld X.testBit i, ()) : ((List Bool) × Int × Unit) × ((Int × Int × Int × Unit) × (List Bool) × Unit))) n ?_ ?_ 0 (by omega)
  · intro i hi
    dsimp only
    unfold ref02_Of_s0
    simp only [gsome, lrow_len]
    rw [decide_eq_true (show (i : Int) < (n : Int) by omega), decide_eq_true (show (i : Int) < 128 by omega)]
    simp only [cond_true]
    rw [lrow_rd _ hi, Option.bind_some, ck_nat (show i < 128 by omega), bld_st _ (show i < 128 by omega) rfl, Option.bind_some, wi64 (by omega)]
  · dsimp only
    unfold ref02_Of_s0
    simp only [gsome, lrow_len]
    rw [decide_eq_false (show ¬ (n : Int) < (n : Int) by omega)]
    simp only [cond_false]
    have hb : bld X.testBit n = rowB (BitVec.ofNat 128 (X % 2 ^ n)) := by
      rw [row_w]
      exact row_ext fun i hi => by rw [Nat.testBit_mod_two_pow]
    have hlt : X % 2 ^ n < 340282366920938463463374607431768211456 := Nat.lt_of_lt_of_le (Nat.mod_lt _ (Nat.two_pow_pos n)) (by rw [show 340282366920938463463374607431768211456 = 2 ^ 128 from rfl]; exact Nat.pow_le_pow_right (by omega) hn)
    rw [hb, halves_wp hlt]
    rfl

theorem subL_lrow {α : Type} {n lo k : Nat} (f : Nat → α) (h : lo + k ≤ n) : subL (lrow n f) (lo : Int) ((lo + k : Nat) : Int) = some (lrow k fun j => f (lo + j)) := by
  unfold subL
  rw [lrow_len, if_pos (by omega), Int.toNat_natCast, Int.toNat_natCast]
  congr 1
  apply List.ext_getElem?
  intro j
  rw [List.getElem?_drop, List.getElem?_take]
  by_cases hj : j < k
  · rw [if_pos (by omega), lrow_get _ (by omega), lrow_get _ hj]
  · rw [if_neg (by omega), List.getElem?_eq_none (by rw [lrow_len]; omega)]

/-! ### a part of a vector -/
theorem slices {w : Int} {x : Nat} {hi lo : Int} (hx : x < 340282366920938463463374607431768211456) : ∃ v c, vec_Slice (vw w x) hi lo = some ((v, c, ()), ()) ∧ ref02_Slice (vw w x) hi lo = some ((v, c, ()), ()) := by
  have hpv : ((vw w x).1, (vw w x).2.1, (vw w x).2.2.1, ()) = vw w x := rfl
  unfold vec_Slice ref02_Slice
  rw [hpv, vec_May_ok hx, ref02_May_ok hx, Option.bind_some, Option.bind_some]
  dsimp only
  cases hm : may w x
  · exact ⟨_, _, rfl, rfl⟩
  · obtain ⟨h1, h2, h3⟩ := may_of hm
    simp only [Bool.not_true, cond_false, gsome]
    rw [show (vw w x).1 = w from rfl]
    by_cases h : 0 ≤ lo ∧ lo ≤ hi ∧ hi < w
    · obtain ⟨l, rfl⟩ : ∃ l : Nat, lo = l := ⟨lo.toNat, by omega⟩
      obtain ⟨k, rfl⟩ : ∃ k : Nat, hi = ((l + k : Nat) : Int) := ⟨hi.toNat - l, by omega⟩
      obtain ⟨W, rfl⟩ : ∃ W : Nat, w = W := ⟨w.toNat, by omega⟩
      rw [decide_eq_false (show ¬ (l : Int) < 0 by omega), decide_eq_false (show ¬ (l : Int) > ((l + k : Nat) : Int) by omega)]
      simp only [Bool.not_false, cond_true, cond_false]
      rw [decide_eq_false (show ¬ ((l + k : Nat) : Int) ≥ (W : Int) by omega), cond_false, vec_Word_ok, Option.bind_some, ref02_Bits_ok hx, Option.bind_some]
      dsimp only
      have hmv : moved x (-(l : Int)) = x / 2 ^ l := by
        unfold moved
        by_cases h0 : l = 0
        · subst h0
          rw [if_pos (by omega), if_pos (by omega), show (-((0 : Nat) : Int)).toNat = 0 from rfl, Nat.pow_zero, Nat.mul_one, Nat.div_one, Nat.mod_eq_of_lt hx]
        · rw [if_neg (by omega), show (-(-(l : Int))).toNat = l by omega]
      rw [word_Shr_ok hx, Option.bind_some, hmv]
      dsimp only
      have hlt : x / 2 ^ l < 340282366920938463463374607431768211456 := Nat.lt_of_le_of_lt (Nat.div_le_self _ _) hx
      rw [show IntKind.i64.wrap (IntKind.i64.wrap (((l + k : Nat) : Int) - (l : Int)) + 1) = ((k + 1 : Nat) : Int) by rw [wrap_i64 (n := ((l + k : Nat) : Int) - (l : Int)) (by omega) (by omega), wrap_i64 (by omega) (by omega)]; omega,
        show IntKind.i64.wrap (((l + k : Nat) : Int) + 1) = ((l + (k + 1) : Nat) : Int) by rw [wrap_i64 (by omega) (by omega)]; omega,
        vec_Cut_ok (by omega) (by omega) hlt, Option.bind_some, show (min (W : Int) 128).toNat = W by omega, subL_lrow _ (by omega), Option.bind_some, Int.toNat_natCast]
      have he : (lrow (k + 1) fun j => x.testBit (l + j)) = lrow (k + 1) (x / 2 ^ l).testBit := lrow_ext fun j _ => by rw [Nat.testBit_div_two_pow, Nat.add_comm j l]
      rw [he, ref02_Of_ok (by omega)]
      exact ⟨_, _, rfl, rfl⟩
    · have hc : (bif (bif decide (lo < 0) then true else (bif !decide (lo < 0) then decide (lo > hi) else false)) then true else (bif !(bif decide (lo < 0) then true else (bif !decide (lo < 0) then decide (lo > hi) else false)) then decide (hi ≥ (bif !(bif decide (lo < 0) then true else (bif !decide (lo < 0) then decide (lo > hi) else false)) then w else 0)) else false)) = true := by
        by_cases h4 : lo < 0
        · rw [decide_eq_true h4]; rfl
        · rw [decide_eq_false h4]
          by_cases h5 : lo > hi
          · rw [decide_eq_true h5]; rfl
          · rw [decide_eq_false h5]
            simp only [Bool.not_false, cond_true, cond_false]
            rw [decide_eq_true (by omega)]
      rw [hc]
      exact ⟨_, _, rfl, rfl⟩

end Go.L

namespace Go.L
open Go Go.Pv
set_option maxRecDepth 100000

theorem vec_New_ok {w : Int} {x : Nat} (h1 : 1 ≤ w) (h2 : w ≤ 128) (hx : x < 340282366920938463463374607431768211456) : vec_New w (wp x).1 (wp x).2.1 = some (((bif decide ((bitLen x : Int) ≤ w) then (vw w x, 0, ()) else ((0, 0, 0, ()), 7, ())) : (Int × Int × Int × Unit) × Int × Unit), ()) := by
  unfold vec_New
  rw [width_ok, Option.bind_some, decide_eq_true (show 1 ≤ w ∧ w ≤ 128 from ⟨h1, h2⟩)]
  simp only [Bool.not_true, cond_false]
  rw [show ((w, (wp x).1, (wp x).2.1, ()) : Int × Int × Int × Unit) = vw w x from rfl, vec_May_ok hx, Option.bind_some]
  have : may w x = decide ((bitLen x : Int) ≤ w) := decide_eq_decide.2 ⟨fun h => h.2, fun h => ⟨⟨h1, h2⟩, h⟩⟩
  rw [this]
  cases decide ((bitLen x : Int) ≤ w) <;> rfl

end Go.L

namespace Go.L
open Go Go.Pv
set_option maxRecDepth 100000

/-- where a reading stands: how many bytes are taken, the first fault -/
abbrev Sta := Nat × Flt
/-- a fault is one -/
def okF (f : Flt) : Prop := ∀ x, f = some x → x.1 ≠ 0
structure okB (b : List Int) : Prop where
  u8 : ∀ v ∈ b, inR .u8 v = true
  len : b.length ≤ 100000

theorem okF_none : okF none := fun _ h => by cases h
theorem okF_some {e w : Int} (h : e ≠ 0) : okF (some (e, w, ())) := fun x hx => by obtain rfl := Option.some.inj hx; exact h

theorem rdNum_ok {b : List Int} {s : Sta} {k : Nat} {most : Int} (ha : s.1 ≤ b.length) (hf : okF s.2) : (rdNum b s.1 s.2 k most).2.1 ≤ b.length ∧ okF (rdNum b s.1 s.2 k most).2.2 := by
  obtain ⟨a, f⟩ := s
  unfold rdNum
  cases f with
  | some f => exact ⟨ha, hf⟩
  | none =>
    dsimp only
    split
    · split
      · exact ⟨ha, okF_some (by omega)⟩
      · exact ⟨by omega, okF_none⟩
    · exact ⟨ha, okF_some (by omega)⟩

theorem mem_part {b : List Int} {n k : Nat} (h : ∀ v ∈ b, inR .u8 v = true) : ∀ v ∈ (b.drop n).take k, inR .u8 v = true := fun v hv => h v (List.mem_of_mem_drop (List.mem_of_mem_take hv))

theorem sub_lo {l : List Int} {k : Nat} (h : k ≤ l.length) : subL l 0 (k : Int) = some (l.take k) := by
  unfold subL
  rw [if_pos ⟨by omega, by omega, by omega⟩, Int.toNat_natCast]
  rfl

/-- reading a vector -/
def rdVec (b : List Int) (s : Sta) : (Int × Int × Int × Unit) × Sta :=
  match s.2 with
  | some f => ((0, 0, 0, ()), s.1, some f)
  | none => if s.1 + 1 ≤ b.length then
      (let w := beN ((b.drop s.1).take 1)
       if w < 1 ∨ 128 < w then ((0, 0, 0, ()), s.1, some (9, (s.1 : Int), ()))
       else if s.1 + 1 + (w + 7) / 8 ≤ b.length then
        (let x := beN ((b.drop (s.1 + 1)).take ((w + 7) / 8))
         if x < 2 ^ w then (vw (w : Int) x, s.1 + 1 + (w + 7) / 8, none) else ((0, 0, 0, ()), s.1, some (4, (s.1 : Int), ())))
       else ((0, 0, 0, ()), s.1, some (3, (s.1 : Int), ())))
    else ((0, 0, 0, ()), s.1, some (3, (s.1 : Int), ()))

end Go.L

namespace Go.L
open Go Go.Pv
set_option maxRecDepth 100000

theorem byte_rd {b : List Int} {s : Sta} {most : Int} (hb : okB b) (ha : s.1 ≤ b.length) : wire_Reader_Byte_e57 (rd b (s.1 : Int) s.2) most = some (((rdNum b s.1 s.2 1 most).1, ()), rd b ((rdNum b s.1 s.2 1 most).2.1 : Int) (rdNum b s.1 s.2 1 most).2.2, ()) := by
  have hl := hb.len
  have h : wire_Reader_number_28a (rd b (s.1 : Int) s.2) 1 most = _ := number_ok (k := 1) (by omega) hb.u8 ha (by omega)
  unfold wire_Reader_Byte_e57
  show (wire_Reader_number_28a (rd b (s.1 : Int) s.2) 1 most).bind _ = _
  rw [h]; rfl

theorem two_rd {b : List Int} {s : Sta} {most : Int} (hb : okB b) (ha : s.1 ≤ b.length) : wire_Reader_Two_e57 (rd b (s.1 : Int) s.2) most = some (((rdNum b s.1 s.2 2 most).1, ()), rd b ((rdNum b s.1 s.2 2 most).2.1 : Int) (rdNum b s.1 s.2 2 most).2.2, ()) := by
  have hl := hb.len
  have h : wire_Reader_number_28a (rd b (s.1 : Int) s.2) 2 most = _ := number_ok (k := 2) (by omega) hb.u8 ha (by omega)
  unfold wire_Reader_Two_e57
  show (wire_Reader_number_28a (rd b (s.1 : Int) s.2) 2 most).bind _ = _
  rw [h]; rfl

theorem back_none (b : List Int) (a : Int) (e p : Int) (he : e ≠ 0) : wire_Reader_back_28a (rd b a none) e p = some ((), rd b p (some (e, p, ())), ()) := by
  unfold wire_Reader_back_28a
  simp only [rd, Option.isNone_none, cond_true, fail_ba6, decide_eq_false he, Bool.not_false, Bool.and_self, Option.bind_some]

theorem one_lt {b : List Int} (hb : okB b) (n : Nat) : beN ((b.drop n).take 1) < 256 := by
  have := beN_lt _ (mem_part (n := n) (k := 1) hb.u8)
  refine Nat.lt_of_lt_of_le this ?_
  have : ((b.drop n).take 1).length ≤ 1 := by rw [List.length_take]; omega
  calc 256 ^ ((b.drop n).take 1).length ≤ 256 ^ 1 := Nat.pow_le_pow_right (by omega) this
    _ = 256 := rfl

theorem rdNum1 {b : List Int} (hb : okB b) {a : Nat} (h : a + 1 ≤ b.length) : rdNum b a none 1 255 = ((beN ((b.drop a).take 1) : Int), a + 1, none) := by
  unfold rdNum
  dsimp only
  have := one_lt hb a
  rw [if_pos h, if_neg (by omega)]

theorem rdNum0 {b : List Int} {a k : Nat} {m : Int} (h : ¬ a + k ≤ b.length) : rdNum b a none k m = (0, a, some (3, (a : Int), ())) := by
  unfold rdNum
  dsimp only
  rw [if_neg h]

theorem rdVec_st {b : List Int} {s : Sta} (ha : s.1 ≤ b.length) (hf : okF s.2) : (rdVec b s).2.1 ≤ b.length ∧ okF (rdVec b s).2.2 := by
  obtain ⟨a, f⟩ := s
  unfold rdVec
  cases f with
  | some f => exact ⟨ha, hf⟩
  | none =>
    dsimp only at ha ⊢
    by_cases h1 : a + 1 ≤ b.length
    · rw [if_pos h1]
      generalize beN ((b.drop a).take 1) = w
      by_cases h2 : w < 1 ∨ 128 < w
      · rw [if_pos h2]; exact ⟨ha, okF_some (by omega)⟩
      · rw [if_neg h2]
        by_cases h3 : a + 1 + (w + 7) / 8 ≤ b.length
        · rw [if_pos h3]
          generalize beN ((b.drop (a + 1)).take ((w + 7) / 8)) = x
          by_cases h4 : x < 2 ^ w
          · rw [if_pos h4]; exact ⟨h3, okF_none⟩
          · rw [if_neg h4]; exact ⟨ha, okF_some (by omega)⟩
        · rw [if_neg h3]; exact ⟨ha, okF_some (by omega)⟩
    · rw [if_neg h1]; exact ⟨ha, okF_some (by omega)⟩

theorem room_ok {w : Nat} (h : w ≤ 1000) : wire_room (w : Int) = some (((((w + 7) / 8 : Nat) : Int), ()), ()) := by
  unfold wire_room
  have e1 : IntKind.i64.wrap ((w : Int) + 8) = ((w + 8 : Nat) : Int) := by rw [wrap_i64 (by omega) (by omega)]; omega
  have e2 : IntKind.i64.wrap (((w + 8 : Nat) : Int) - 1) = ((w + 7 : Nat) : Int) := by rw [wrap_i64 (by omega) (by omega)]; omega
  have e3 : ((w + 7 : Nat) : Int).tdiv 8 = (((w + 7) / 8 : Nat) : Int) := rfl
  rw [e1, e2, e3, wrap_i64 (by omega) (by omega)]

/-- a byte behind a word -/
theorem word_byte {x v : Nat} (hx : x < 1329227995784915872903807060280344576) (hv : v < 256) : (word_Shl ((wp x).1, (wp x).2.1, ()) 8).bind (fun r_12 => (word_Or r_12.1.1 (0, IntKind.u64.wrap (v : Int), ())).bind fun r_14 => some r_14.1.1) = some (wp (x * 256 + v)) := by
  have h1 : word_Shl ((wp x).1, (wp x).2.1, ()) 8 = some ((wp (moved x 8), ()), ()) := word_Shl_ok (a := x) (n := 8) (by omega)
  have h2 : moved x 8 = x * 256 := by
    unfold moved
    simp
    omega
  have h3 : ((0, IntKind.u64.wrap (v : Int), ()) : Int × Int × Unit) = wp v := by
    rw [wu64 (by omega)]
    unfold wp
    rw [Nat.div_eq_of_lt (by omega), Nat.mod_eq_of_lt (by omega)]
    rfl
  rw [h1, Option.bind_some, h2, h3]
  dsimp only
  rw [word_Or_ok (by omega) (by omega), Option.bind_some]
  have := Nat.shiftLeft_add_eq_or_of_lt (i := 8) (show v < 2 ^ 8 by omega) x
  rw [Nat.shiftLeft_eq] at this
  have h4 : x * 256 ||| v = x * 256 + v := this.symm
  rw [h4]

theorem vec_loop {b : List Int} {w : Nat} {a A : Nat} {l : List Int} (h1 : 1 ≤ w) (h2 : w ≤ 128) (hu : ∀ v ∈ l, inR .u8 v = true) (hl : l.length ≤ 16) :
    loopR (fun (z : (Int × Int × (List Int) × Int × Int × Unit) × ((Int × Int × Int × Unit) × (Int × Int × Unit) × Rdr × Unit)) => wire_Reader_Vec_59d_s0 z.1.1 z.1.2.1 z.1.2.2.1 z.1.2.2.2.1 z.1.2.2.2.2.1 z.2.1 z.2.2.1 z.2.2.2.1) (((a : Int), (w : Int), l, (l.length : Int), 0, ()), (0, 0, 0, ()), (0, 0, ()), rd b (A : Int) none, ()) =
      some (((if beN l < 2 ^ w then vw (w : Int) (beN l) else (0, 0, 0, ())), ()), (if beN l < 2 ^ w then rd b (A : Int) none else rd b (a : Int) (some (4, (a : Int), ()))), ()) := by
  have key := loop_up (f := fun (z : (Int × Int × (List Int) × Int × Int × Unit) × ((Int × Int × Int × Unit) × (Int × Int × Unit) × Rdr × Unit)) => wire_Reader_Vec_59d_s0 z.1.1 z.1.2.1 z.1.2.2.1 z.1.2.2.2.1 z.1.2.2.2.2.1 z.2.1 z.2.2.1 z.2.2.2.1)
    (fun i => (((a : Int), (w : Int), l, (l.length : Int), (i : Int), ()), (0, 0, 0, ()), wp (beN (l.take i)), rd b (A : Int) none, ())) l.length (r := (((if beN l < 2 ^ w then vw (w : Int) (beN l) else (0, 0, 0, ())), ()), (if beN l < 2 ^ w then rd b (A : Int) none else rd b (a : Int) (some (4, (a : Int), ()))), ()))
    (fun i hi => by
      dsimp only
      unfold wire_Reader_Vec_59d_s0
      have hv := u8_of (hu l[i] (List.getElem_mem hi))
      have hlt := beN_lt (l.take i) fun v hv => hu v (List.mem_of_mem_take hv)
      have hp : 256 ^ (l.take i).length ≤ 256 ^ 15 := Nat.pow_le_pow_right (by omega) (by rw [List.length_take]; omega)
      have ht : l.take (i + 1) = l.take i ++ [l[i]] := by rw [List.take_add_one, List.getElem?_eq_getElem hi]; rfl
      have hvv : ((l[i].toNat : Nat) : Int) = l[i] := by omega
      have hw := word_byte (x := beN (l.take i)) (v := l[i].toNat) (by omega) (by omega)
      rw [hvv] at hw
      rw [dlt hi, cond_true, rdI_get hi, Option.bind_some, ht, beN_snoc, wi64 (by omega)]
      generalize wp (beN (l.take i) * 256 + l[i].toNat) = W at hw
      cases hs : word_Shl ((wp (beN (l.take i))).1, (wp (beN (l.take i))).2.1, ()) 8 with
      | none => rw [hs] at hw; cases hw
      | some r12 =>
        rw [hs, Option.bind_some] at hw
        rw [Option.bind_some]
        cases ho : word_Or r12.1.1 (0, IntKind.u64.wrap l[i], ()) with
        | none => rw [ho] at hw; cases hw
        | some r14 =>
          rw [ho, Option.bind_some] at hw
          have := Option.some.inj hw
          rw [Option.bind_some, this])
    (by
      dsimp only
      unfold wire_Reader_Vec_59d_s0
      have hlt := beN_lt l hu
      have hp : 256 ^ l.length ≤ 256 ^ 16 := Nat.pow_le_pow_right (by omega) hl
      rw [dge, cond_false, List.take_length, vec_New_ok (by omega) (by omega) (by omega), Option.bind_some]
      by_cases hx : beN l < 2 ^ w
      · have hbl : (bitLen (beN l) : Int) ≤ (w : Int) := by
          have := bitLen_le hx
          omega
        rw [decide_eq_true hbl, if_pos hx, if_pos hx]
        rfl
      · have hbl : ¬ (bitLen (beN l) : Int) ≤ (w : Int) := by
          intro h
          refine hx ?_
          have hm : may (w : Int) (beN l) = true := decide_eq_true ⟨⟨by omega, by omega⟩, h⟩
          have := may_lt hm
          simpa using this
        rw [decide_eq_false hbl, if_neg hx, if_neg hx]
        have hbk : wire_Reader_back_28a (((rd b (A : Int) none).1.1, (rd b (A : Int) none).1.2.1, (rd b (A : Int) none).1.2.2.1, ()), ()) 4 (a : Int) = _ := back_none b (A : Int) 4 (a : Int) (by omega)
        simp only [cond_false]
        rw [hbk]
        rfl) 0 (Nat.zero_le _)
  refine Eq.trans ?_ key
  rw [List.take_zero]
  rfl

theorem vec_rd {b : List Int} {s : Sta} (hb : okB b) (ha : s.1 ≤ b.length) : wire_Reader_Vec_59d (rd b (s.1 : Int) s.2) = some (((rdVec b s).1, ()), rd b ((rdVec b s).2.1 : Int) (rdVec b s).2.2, ()) := by
  have hlen := hb.len
  obtain ⟨a, f⟩ := s
  have h1 : wire_Reader_Byte_e57 (((rd b (a : Int) f).1.1, (rd b (a : Int) f).1.2.1, (rd b (a : Int) f).1.2.2.1, ()), ()) 255 = _ := byte_rd (s := (a, f)) hb ha
  unfold wire_Reader_Vec_59d
  rw [h1, Option.bind_some]
  dsimp only at ha ⊢
  unfold rdVec
  cases f with
  | some f =>
    have : rdNum b a (some f) 1 255 = (0, a, some f) := rfl
    rw [this]
    rfl
  | none =>
    dsimp only
    by_cases hA : a + 1 ≤ b.length
    · rw [rdNum1 hb hA, if_pos hA]
      have hw := one_lt hb a
      generalize beN ((b.drop a).take 1) = w at hw
      dsimp only
      by_cases hbad : w < 1 ∨ 128 < w
      · rw [if_pos hbad]
        have hc : (bif decide ((w : Int) < 1) then true else bif !decide ((w : Int) < 1) then decide ((w : Int) > 128) else false) = true := by
          rcases hbad with h | h
          · rw [decide_eq_true (by omega)]; rfl
          · rw [decide_eq_false (by omega), decide_eq_true (by omega)]; rfl
        simp only [gsome, hc, cond_true]
        rw [back_none b _ 9 _ (by omega)]
        rfl
      · rw [if_neg hbad]
        have hc : (bif decide ((w : Int) < 1) then true else bif !decide ((w : Int) < 1) then decide ((w : Int) > 128) else false) = false := by
          rw [decide_eq_false (by omega), decide_eq_false (by omega)]; rfl
        simp only [gsome, hc, cond_false]
        rw [room_ok (by omega), Option.bind_some]
        dsimp only
        have ht := take_c4f (b := b) (at_ := a + 1) (k := (w + 7) / 8) none (by omega) hA
        show (wire_cursor_take_c4f (b, ((a + 1 : Nat) : Int), none, ()) (((w + 7) / 8 : Nat) : Int)).bind _ = _
        rw [ht, Option.bind_some]
        by_cases hk : a + 1 + (w + 7) / 8 ≤ b.length
        · rw [if_pos hk, decide_eq_true hk]
          simp only [Option.isNone_none, Bool.and_self, cond_true, Bool.not_true, cond_false]
          have hkl : ((b.drop (a + 1)).take ((w + 7) / 8)).length ≤ 16 := by rw [List.length_take]; omega
          have hv := vec_loop (b := b) (w := w) (a := a) (A := a + 1 + (w + 7) / 8) (l := (b.drop (a + 1)).take ((w + 7) / 8)) (by omega) (by omega) (mem_part hb.u8) hkl
          refine Eq.trans hv ?_
          split <;> rfl
        · rw [if_neg hk, decide_eq_false hk]
          simp only [Bool.and_false, cond_false, Bool.not_false, cond_true]
          have hbk : wire_Reader_back_28a ((b, ((a + 1 : Nat) : Int), none, ()), ()) 3 (a : Int) = _ := back_none b ((a + 1 : Nat) : Int) 3 (a : Int) (by omega)
          show (wire_Reader_back_28a ((b, ((a + 1 : Nat) : Int), none, ()), ()) 3 (a : Int)).bind _ = _
          rw [hbk]
          rfl
    · rw [rdNum0 hA, if_neg hA]
      rfl

end Go.L

namespace Go.L
open Go Go.Pv
set_option maxRecDepth 100000

/-- how many things a list has -/
def rdCount (b : List Int) (s : Sta) (m : Int) : Int × Sta :=
  let r := rdNum b s.1 s.2 1 255
  match s.2, r.2.2 with
  | none, none => if r.1 > m then (0, s.1, some (2, (s.1 : Int), ())) else r
  | _, _ => r

theorem rdCount_st {b : List Int} {s : Sta} {m : Int} (ha : s.1 ≤ b.length) (hf : okF s.2) : (rdCount b s m).2.1 ≤ b.length ∧ okF (rdCount b s m).2.2 := by
  have h := rdNum_ok (b := b) (s := s) (k := 1) (most := 255) ha hf
  unfold rdCount
  dsimp only
  split
  · split
    · exact ⟨ha, okF_some (by omega)⟩
    · exact h
  · exact h

theorem rdCount_le {b : List Int} (hb : okB b) {s : Sta} {m : Int} (hm : 0 ≤ m) : 0 ≤ (rdCount b s m).1 ∧ (rdCount b s m).1 ≤ m ∧ (rdCount b s m).1 ≤ 255 := by
  obtain ⟨a, f⟩ := s
  unfold rdCount
  cases f with
  | some f => exact ⟨by show (0 : Int) ≤ 0; omega, hm, by show (0 : Int) ≤ 255; omega⟩
  | none =>
    dsimp only
    by_cases hA : a + 1 ≤ b.length
    · rw [rdNum1 hb hA]
      have := one_lt hb a
      dsimp only
      split
      · exact ⟨by show (0 : Int) ≤ 0; omega, hm, by show (0 : Int) ≤ 255; omega⟩
      · exact ⟨by dsimp only; omega, by dsimp only; omega, by dsimp only; omega⟩
    · rw [rdNum0 hA]
      exact ⟨by show (0 : Int) ≤ 0; omega, hm, by show (0 : Int) ≤ 255; omega⟩

theorem count_rd {b : List Int} {s : Sta} {m : Int} (hb : okB b) (ha : s.1 ≤ b.length) (hm : 0 ≤ m) : wire_Reader_count_e57 (rd b (s.1 : Int) s.2) m = some (((rdCount b s m).1, ()), rd b ((rdCount b s m).2.1 : Int) (rdCount b s m).2.2, ()) := by
  obtain ⟨a, f⟩ := s
  unfold wire_Reader_count_e57
  have h1 : wire_Reader_Byte_e57 (((rd b (a : Int) f).1.1, (rd b (a : Int) f).1.2.1, (rd b (a : Int) f).1.2.2.1, ()), ()) 255 = _ := byte_rd (s := (a, f)) hb ha
  rw [h1, Option.bind_some]
  unfold rdCount
  cases f with
  | some f =>
    have : rdNum b a (some f) 1 255 = (0, a, some f) := rfl
    dsimp only
    rw [this, decide_eq_false (by omega)]
    rfl
  | none =>
    dsimp only at ha ⊢
    by_cases hA : a + 1 ≤ b.length
    · rw [rdNum1 hb hA]
      dsimp only
      by_cases hc : ((beN ((b.drop a).take 1) : Nat) : Int) > m
      · rw [decide_eq_true hc, if_pos hc, cond_true, back_none b _ 2 _ (by omega)]
        rfl
      · rw [decide_eq_false hc, if_neg hc]
        rfl
    · rw [rdNum0 hA]
      dsimp only
      rw [decide_eq_false (by omega)]
      rfl

end Go.L

namespace Go.L
open Go Go.Pv
set_option maxRecDepth 100000

/-- a reading that stands within the bytes -/
def okT (b : List Int) (s : Sta) : Prop := s.1 ≤ b.length ∧ okF s.2

theorem okT.num {b : List Int} {s : Sta} {k : Nat} {m : Int} (h : okT b s) : okT b (rdNum b s.1 s.2 k m).2 := rdNum_ok h.1 h.2
theorem okT.vec {b : List Int} {s : Sta} (h : okT b s) : okT b (rdVec b s).2 := rdVec_st h.1 h.2
theorem okT.count {b : List Int} {s : Sta} {m : Int} (h : okT b s) : okT b (rdCount b s m).2 := rdCount_st h.1 h.2

def seqV (b : List Int) : Nat → Sta → List V4 × Sta
  | 0, s => ([], s)
  | n + 1, s => ((seqV b n s).1 ++ [(rdVec b (seqV b n s).2).1], (rdVec b (seqV b n s).2).2)

def seqN (b : List Int) (m : Int) : Nat → Sta → List Int × Sta
  | 0, s => ([], s)
  | n + 1, s => ((seqN b m n s).1 ++ [(rdNum b (seqN b m n s).2.1 (seqN b m n s).2.2 1 m).1], (rdNum b (seqN b m n s).2.1 (seqN b m n s).2.2 1 m).2)

theorem seqV_ok {b : List Int} {s : Sta} (h : okT b s) : ∀ n, okT b (seqV b n s).2 ∧ (seqV b n s).1.length = n
  | 0 => ⟨h, rfl⟩
  | n + 1 => ⟨(seqV_ok h n).1.vec, by simp [seqV, (seqV_ok h n).2]⟩

theorem seqN_ok {b : List Int} {m : Int} {s : Sta} (h : okT b s) : ∀ n, okT b (seqN b m n s).2 ∧ (seqN b m n s).1.length = n
  | 0 => ⟨h, rfl⟩
  | n + 1 => ⟨(seqN_ok h n).1.num, by simp [seqN, (seqN_ok h n).2]⟩

def rdVecs (b : List Int) (s : Sta) (m : Int) : List V4 × Sta :=
  ((bif (seqV b (rdCount b s m).1.toNat (rdCount b s m).2).2.2.isNone then (seqV b (rdCount b s m).1.toNat (rdCount b s m).2).1 else []), (seqV b (rdCount b s m).1.toNat (rdCount b s m).2).2)

def rdNums (b : List Int) (s : Sta) (c m : Int) : List Int × Sta :=
  ((bif (seqN b m (rdCount b s c).1.toNat (rdCount b s c).2).2.2.isNone then (seqN b m (rdCount b s c).1.toNat (rdCount b s c).2).1 else []), (seqN b m (rdCount b s c).1.toNat (rdCount b s c).2).2)

theorem okT.vecs {b : List Int} {s : Sta} {m : Int} (h : okT b s) : okT b (rdVecs b s m).2 := (seqV_ok h.count _).1
theorem okT.nums {b : List Int} {s : Sta} {c m : Int} (h : okT b s) : okT b (rdNums b s c m).2 := (seqN_ok h.count _).1

theorem room24 {xs ys : List V4} (h : xs.length + ys.length ≤ 100000) : roomI 24 xs ys = some (xs ++ ys) := by
  unfold roomI
  rw [if_pos (by omega)]
theorem room8 {xs ys : List Int} (h : xs.length + ys.length ≤ 100000) : roomI 8 xs ys = some (xs ++ ys) := by
  unfold roomI
  rw [if_pos (by omega)]

theorem vecs_rd {b : List Int} {s : Sta} {m : Int} (hb : okB b) (h : okT b s) (hm : 0 ≤ m) : wire_Reader_Vecs_e57 (rd b (s.1 : Int) s.2) m = some (((rdVecs b s m).1, ()), rd b ((rdVecs b s m).2.1 : Int) (rdVecs b s m).2.2, ()) := by
  have h1 : wire_Reader_count_e57 (((rd b (s.1 : Int) s.2).1.1, (rd b (s.1 : Int) s.2).1.2.1, (rd b (s.1 : Int) s.2).1.2.2.1, ()), ()) m = _ := count_rd hb h.1 hm
  have hc := rdCount_le (s := s) hb hm
  have hS := h.count (m := m)
  unfold wire_Reader_Vecs_e57 rdVecs
  rw [h1, Option.bind_some]
  dsimp only
  generalize rdCount b s m = C at *
  obtain ⟨n, hn⟩ : ∃ n : Nat, C.1 = (n : Int) := ⟨C.1.toNat, by omega⟩
  rw [hn, Int.toNat_natCast]
  have key := loop_up (f := fun (z : ((List V4) × Int × Int × Unit) × (Rdr × Unit)) => wire_Reader_Vecs_e57_s0 z.1.1 z.1.2.1 z.1.2.2.1 z.2.1) (fun i => (((seqV b i C.2).1, (n : Int), (i : Int), ()), rd b ((seqV b i C.2).2.1 : Int) (seqV b i C.2).2.2, ())) n
    (r := (((bif (seqV b n C.2).2.2.isNone then (seqV b n C.2).1 else []), ()), rd b ((seqV b n C.2).2.1 : Int) (seqV b n C.2).2.2, ()))
    (fun i hi => by
      dsimp only
      unfold wire_Reader_Vecs_e57_s0
      have hq := seqV_ok (b := b) hS i
      have hv : wire_Reader_Vec_59d (((rd b ((seqV b i C.2).2.1 : Int) (seqV b i C.2).2.2).1.1, (rd b ((seqV b i C.2).2.1 : Int) (seqV b i C.2).2.2).1.2.1, (rd b ((seqV b i C.2).2.1 : Int) (seqV b i C.2).2.2).1.2.2.1, ()), ()) = _ := vec_rd hb hq.1.1
      rw [dlt hi, cond_true, hv, Option.bind_some]
      dsimp only
      rw [room24 (by rw [hq.2]; simp only [List.length_cons, List.length_nil]; omega), Option.bind_some, wi64 (by omega)]
      rfl)
    (by
      dsimp only
      unfold wire_Reader_Vecs_e57_s0
      rw [dge, cond_false]
      cases hf : (seqV b n C.2).2.2 with
      | none => rfl
      | some f => rfl) 0 (Nat.zero_le _)
  exact key

theorem nums_rd {b : List Int} {s : Sta} {c m : Int} (hb : okB b) (h : okT b s) (hm : 0 ≤ c) : wire_Reader_Numbers_28a (rd b (s.1 : Int) s.2) c m = some (((rdNums b s c m).1, ()), rd b ((rdNums b s c m).2.1 : Int) (rdNums b s c m).2.2, ()) := by
  have h1 : wire_Reader_count_e57 (((rd b (s.1 : Int) s.2).1.1, (rd b (s.1 : Int) s.2).1.2.1, (rd b (s.1 : Int) s.2).1.2.2.1, ()), ()) c = _ := count_rd hb h.1 hm
  have hc := rdCount_le (s := s) hb hm
  have hS := h.count (m := c)
  unfold wire_Reader_Numbers_28a rdNums
  rw [h1, Option.bind_some]
  dsimp only
  generalize rdCount b s c = C at *
  obtain ⟨n, hn⟩ : ∃ n : Nat, C.1 = (n : Int) := ⟨C.1.toNat, by omega⟩
  rw [hn, Int.toNat_natCast]
  have key := loop_up (f := fun (z : (Int × (List Int) × Int × Int × Unit) × (Rdr × Unit)) => wire_Reader_Numbers_28a_s0 z.1.1 z.1.2.1 z.1.2.2.1 z.1.2.2.2.1 z.2.1) (fun i => ((m, (seqN b m i C.2).1, (n : Int), (i : Int), ()), rd b ((seqN b m i C.2).2.1 : Int) (seqN b m i C.2).2.2, ())) n
    (r := (((bif (seqN b m n C.2).2.2.isNone then (seqN b m n C.2).1 else []), ()), rd b ((seqN b m n C.2).2.1 : Int) (seqN b m n C.2).2.2, ()))
    (fun i hi => by
      dsimp only
      unfold wire_Reader_Numbers_28a_s0
      have hq := seqN_ok (b := b) (m := m) hS i
      have hv : wire_Reader_Byte_e57 (((rd b ((seqN b m i C.2).2.1 : Int) (seqN b m i C.2).2.2).1.1, (rd b ((seqN b m i C.2).2.1 : Int) (seqN b m i C.2).2.2).1.2.1, (rd b ((seqN b m i C.2).2.1 : Int) (seqN b m i C.2).2.2).1.2.2.1, ()), ()) m = _ := byte_rd hb hq.1.1
      rw [dlt hi, cond_true, hv, Option.bind_some]
      dsimp only
      rw [room8 (by rw [hq.2]; simp only [List.length_cons, List.length_nil]; omega), Option.bind_some, wi64 (by omega)]
      rfl)
    (by
      dsimp only
      unfold wire_Reader_Numbers_28a_s0
      rw [dge, cond_false]
      cases hf : (seqN b m n C.2).2.2 with
      | none => rfl
      | some f => rfl) 0 (Nat.zero_le _)
  exact key

theorem num_le {b : List Int} (hb : okB b) {s : Sta} {m : Int} (hm : 0 ≤ m) : 0 ≤ (rdNum b s.1 s.2 1 m).1 ∧ (rdNum b s.1 s.2 1 m).1 ≤ m := by
  obtain ⟨a, f⟩ := s
  unfold rdNum
  cases f with
  | some f => exact ⟨by show (0 : Int) ≤ 0; omega, hm⟩
  | none =>
    dsimp only
    split
    · split
      · exact ⟨by show (0 : Int) ≤ 0; omega, hm⟩
      · rename_i h; exact ⟨by dsimp only; omega, by dsimp only; omega⟩
    · exact ⟨by show (0 : Int) ≤ 0; omega, hm⟩

/-- reading an update's rows -/
def rdMatch (b : List Int) (s : Sta) : (List V4 × List V4 × Int × Int) × Sta :=
  let v := rdVecs b s 4
  let m := rdVecs b v.2 4
  let l := rdNum b m.2.1 m.2.2 2 65535
  let p := rdNum b l.2.1 l.2.2 2 65535
  ((v.1, m.1, l.1, p.1), p.2)
def rdCall (b : List Int) (s : Sta) : (Int × List V4) × Sta :=
  let a := rdNum b s.1 s.2 1 255
  let v := rdVecs b a.2 8
  ((a.1, v.1), v.2)
/-- reading an update -/
def rdUp (b : List Int) (s : Sta) : Up × Sta :=
  let k := rdNum b s.1 s.2 1 4
  let t := rdNum b k.2.1 k.2.2 1 255
  if k.1 = 4 then
    (let p := rdNums b t.2 64 255
     ((k.1, 0, ([], [], 0, 0, (0, [], ()), ()), t.1, p.1, ()), p.2))
  else
    (let m := if k.1 = 3 then (([], [], 0, 0), t.2) else rdMatch b t.2
     let c := if k.1 = 2 then ((0, []), m.2) else rdCall b m.2
     ((k.1, t.1, (m.1.1, m.1.2.1, m.1.2.2.1, m.1.2.2.2, (c.1.1, c.1.2, ()), ()), 0, [], ()), c.2))

theorem okT.match {b : List Int} {s : Sta} (h : okT b s) : okT b (rdMatch b s).2 := h.vecs.vecs.num.num
theorem okT.call {b : List Int} {s : Sta} (h : okT b s) : okT b (rdCall b s).2 := h.num.vecs

theorem okT.up {b : List Int} {s : Sta} (h : okT b s) : okT b (rdUp b s).2 := by
  unfold rdUp
  dsimp only
  split
  · exact h.num.num.nums
  · split <;> split
    · exact h.num.num
    · exact h.num.num.call
    · exact h.num.num.match
    · exact h.num.num.match.call

theorem match_rd {b : List Int} {s : Sta} (hb : okB b) (h : okT b s) : batch_readMatch_59d (rd b (s.1 : Int) s.2) = some ((((rdMatch b s).1.1, (rdMatch b s).1.2.1, (rdMatch b s).1.2.2.1, (rdMatch b s).1.2.2.2, (0, (), ()), ()), ()), rd b ((rdMatch b s).2.1 : Int) (rdMatch b s).2.2, ()) := by
  have h1 : wire_Reader_Vecs_e57 (((rd b (s.1 : Int) s.2).1.1, (rd b (s.1 : Int) s.2).1.2.1, (rd b (s.1 : Int) s.2).1.2.2.1, ()), ()) 4 = _ := vecs_rd (m := 4) hb h (by omega)
  unfold batch_readMatch_59d
  rw [h1, Option.bind_some]
  dsimp only
  rw [vecs_rd hb h.vecs (by omega), Option.bind_some]
  dsimp only
  rw [two_rd hb h.vecs.vecs.1, Option.bind_some]
  dsimp only
  rw [two_rd hb h.vecs.vecs.num.1]
  rfl

theorem call_rd {b : List Int} {s : Sta} (hb : okB b) (h : okT b s) : batch_readCall_59d (rd b (s.1 : Int) s.2) = some ((((rdCall b s).1.1, (rdCall b s).1.2, ()), ()), rd b ((rdCall b s).2.1 : Int) (rdCall b s).2.2, ()) := by
  have h1 : wire_Reader_Byte_e57 (((rd b (s.1 : Int) s.2).1.1, (rd b (s.1 : Int) s.2).1.2.1, (rd b (s.1 : Int) s.2).1.2.2.1, ()), ()) 255 = _ := byte_rd hb h.1
  unfold batch_readCall_59d
  rw [h1, Option.bind_some]
  dsimp only
  rw [vecs_rd hb h.num (by omega)]
  rfl

theorem up_rd {b : List Int} {s : Sta} (hb : okB b) (h : okT b s) : batch_read_59d (rd b (s.1 : Int) s.2) = some (((rdUp b s).1, ()), rd b ((rdUp b s).2.1 : Int) (rdUp b s).2.2, ()) := by
  have h1 : wire_Reader_Byte_e57 (((rd b (s.1 : Int) s.2).1.1, (rd b (s.1 : Int) s.2).1.2.1, (rd b (s.1 : Int) s.2).1.2.2.1, ()), ()) 4 = _ := byte_rd hb h.1
  have hk := num_le (s := s) (m := 4) hb (by omega)
  have hK := h.num (k := 1) (m := 4)
  unfold batch_read_59d rdUp
  rw [h1, Option.bind_some]
  dsimp only
  generalize rdNum b s.1 s.2 1 4 = k at *
  rw [byte_rd hb hK.1]
  have hT := hK.num (k := 1) (m := 255)
  generalize rdNum b k.2.1 k.2.2 1 255 = t at *
  by_cases h4 : k.1 = 4
  · rw [decide_eq_true h4, cond_true, if_pos h4, Option.bind_some]
    dsimp only
    rw [nums_rd hb hT (by omega)]
    rfl
  · rw [decide_eq_false h4, cond_false, if_neg h4, Option.bind_some]
    dsimp only
    by_cases h2 : k.1 = 2
    · rw [decide_eq_true h2, cond_true, match_rd hb hT, Option.bind_some, if_neg (show ¬ k.1 = 3 by omega), if_pos h2]
    · rw [decide_eq_false h2, cond_false, if_neg h2]
      by_cases h0 : k.1 = 0
      · rw [decide_eq_true h0, cond_true, cond_true, match_rd hb hT, Option.bind_some, if_neg (show ¬ k.1 = 3 by omega)]
        dsimp only
        rw [call_rd hb hT.match]
        rfl
      · rw [decide_eq_false h0, cond_false]
        by_cases h01 : k.1 = 1
        · rw [decide_eq_true h01, cond_true, match_rd hb hT, Option.bind_some, if_neg (show ¬ k.1 = 3 by omega)]
          dsimp only
          rw [call_rd hb hT.match]
          rfl
        · rw [decide_eq_false h01, cond_false, call_rd hb hT, if_pos (show k.1 = 3 by omega)]
          rfl

end Go.L

namespace Go.L
open Go Go.Pv
set_option maxRecDepth 100000

theorem fail_36a (b : List Int) (a e p : Int) (he : e ≠ 0) : wire_cursor_fail_36a (b, a, (), ()) e p = some ((), (b, a, some (e, p, ()), ()), ()) := by
  unfold wire_cursor_fail_36a
  rw [decide_eq_false he]; rfl

theorem take_1ca {b : List Int} {k : Nat} (hb : b.length ≤ 1000000) : wire_cursor_take_1ca (b, 0, (), ()) (k : Int) =
    some ((bif decide (k ≤ b.length) then ((((b.take k), true, ()), ((b, (k : Int), (), ()), ()))) else (([], false, ()), ((b, 0, (), ()), ())))) := by
  unfold wire_cursor_take_1ca
  have e1 : IntKind.i64.wrap ((b.length : Int) - 0) = (b.length : Int) := by rw [wrap_i64 (by omega) (by omega)]; omega
  simp only [e1]
  by_cases h : k ≤ b.length
  · have e2 : IntKind.i64.wrap (0 + (k : Int)) = (k : Int) := by rw [wrap_i64 (by omega) (by omega)]; omega
    have e3 : IntKind.i64.wrap ((k : Int) - (k : Int)) = 0 := by rw [wrap_i64 (by omega) (by omega)]; omega
    rw [decide_eq_true h, decide_eq_false (show ¬ ((k : Int) > (b.length : Int)) by omega), cond_false, cond_true, e2, e3, sub_lo h]
    rfl
  · rw [decide_eq_false h, decide_eq_true (show ((k : Int) > (b.length : Int)) by omega)]
    rfl

/-- a number that is read first -/
theorem first_rd {b : List Int} {m : Int} (hb : okB b) : wire_Reader_Byte_db0 ((b, 0, (), ()), ()) m = some (((rdNum b 0 none 1 m).1, ()), rd b ((rdNum b 0 none 1 m).2.1 : Int) (rdNum b 0 none 1 m).2.2, ()) := by
  have hlen := hb.len
  unfold wire_Reader_Byte_db0 wire_Reader_number_395
  have ht : wire_cursor_take_1ca (b, 0, (), ()) 1 = _ := take_1ca (k := 1) (b := b) (by omega)
  dsimp only
  rw [ht, Option.bind_some]
  unfold rdNum
  dsimp only
  by_cases h : 0 + 1 ≤ b.length
  · rw [decide_eq_true (show 1 ≤ b.length by omega), if_pos h]
    simp only [cond_true, Bool.not_true, cond_false]
    rw [List.drop_zero]
    have hl : (b.take 1).length = 1 := by rw [List.length_take]; omega
    have hm : ∀ v ∈ b.take 1, inR .u8 v = true := fun v hv => hb.u8 v (List.mem_of_mem_take hv)
    generalize b.take 1 = l at hl hm
    have key := loop_up (f := fun (z : (Int × Int × Int × (List Int) × Int × Int × Unit) × ((((List Int) × Int × Unit × Unit) × Unit) × Unit)) => wire_Reader_number_395_s0 z.1.1 z.1.2.1 z.1.2.2.1 z.1.2.2.2.1 z.1.2.2.2.2.1 z.1.2.2.2.2.2.1 z.2.1)
      (fun i => ((m, 0, (beN (l.take i) : Int), l, (l.length : Int), (i : Int), ()), (((b, 1, (), ()), ()), ()))) l.length
      (r := ((if (beN l : Int) > m then (0, ()) else ((beN l : Int), ())), (if (beN l : Int) > m then rd b 0 (some (7, 0, ())) else rd b 1 none), ()))
      (fun i hi => by
        dsimp only
        unfold wire_Reader_number_395_s0
        rw [dlt hi, cond_true]
        have hv := u8_of (hm l[i] (List.getElem_mem hi))
        have hr : rdI l (i : Int) = some l[i] := by
          unfold rdI
          rw [if_pos (by omega), Int.toNat_natCast, List.getElem?_eq_getElem hi]
        rw [hr, Option.bind_some]
        have hlt := beN_lt (l.take i) fun v hv => hm v (List.mem_of_mem_take hv)
        have hp : 256 ^ (l.take i).length ≤ 256 ^ 3 := Nat.pow_le_pow_right (by omega) (by rw [List.length_take]; omega)
        have e : l[i] = ((l[i].toNat : Nat) : Int) := by omega
        have hb := or_byte (n := beN (l.take i)) (v := l[i].toNat) (by omega) (by omega)
        rw [e, hb, wi64 (by omega)]
        have ht : l.take (i + 1) = l.take i ++ [l[i]] := by rw [List.take_add_one, List.getElem?_eq_getElem hi]; rfl
        rw [ht, beN_snoc])
      (by
        dsimp only
        unfold wire_Reader_number_395_s0
        rw [decide_eq_false (show ¬ ((l.length : Int) < (l.length : Int)) by omega), cond_false, List.take_length]
        by_cases hmo : (beN l : Int) > m
        · simp only [decide_eq_true hmo, cond_true, if_pos hmo, fail_36a _ _ 7 _ (show (7 : Int) ≠ 0 by omega), Option.bind_some]
          rfl
        · simp only [decide_eq_false hmo, cond_false, if_neg hmo]
          rfl) 0 (Nat.zero_le _)
    simp only [List.take_zero] at key
    have key2 := (congrArg (fun o => Option.bind o (fun (r_1 : (Int × Unit) × Rdr × Unit) => some ((r_1.1.1, ()), r_1.2.1, ()))) key)
    refine Eq.trans ?_ (key2.trans ?_)
    · rfl
    · by_cases hmo : (beN l : Int) > m
      · simp only [if_pos hmo]; rfl
      · simp only [if_neg hmo]; rfl
  · rw [decide_eq_false (show ¬ 1 ≤ b.length by omega), if_neg h]
    simp only [cond_false, Bool.not_false, cond_true, fail_36a _ _ 3 _ (show (3 : Int) ≠ 0 by omega), Option.bind_some]
    rfl

/-- the fault at the end of a reading -/
def endF (b : List Int) (s : Sta) : Flt :=
  match s.2 with
  | some f => some f
  | none => if s.1 < b.length then some (2, (s.1 : Int), ()) else none
def endS (b : List Int) (s : Sta) : Flt ⊕ Unit :=
  match endF b s with
  | some f => .inl (some f)
  | none => .inr ()

theorem end_rd {b : List Int} {s : Sta} (hb : okB b) (h : okT b s) : wire_Reader_End_59d (rd b (s.1 : Int) s.2) = some ((endS b s, ()), rd b (s.1 : Int) s.2, ()) := by
  have hlen := hb.len
  obtain ⟨a, f⟩ := s
  have ha := h.1
  dsimp only at ha
  unfold wire_Reader_End_59d endS endF
  cases f with
  | some f => rfl
  | none =>
    unfold wire_Reader_Left_59d
    have e1 : IntKind.i64.wrap ((b.length : Int) - (a : Int)) = (b.length : Int) - (a : Int) := wrap_i64 (by omega) (by omega)
    simp only [Option.isNone_none, Bool.not_true, cond_false, Option.bind_some, e1]
    by_cases hl : a < b.length
    · rw [decide_eq_true (show (b.length : Int) - (a : Int) > 0 by omega), if_pos hl]
      rfl
    · rw [decide_eq_false (show ¬ (b.length : Int) - (a : Int) > 0 by omega), if_neg hl]
      rfl

theorem nil_end {b : List Int} {s : Sta} : isNil1 (endS b s) = (endF b s).isNone := by
  unfold endS
  cases endF b s with
  | none => rfl
  | some f => rfl

/-- updates read until there is a fault -/
def seqU (b : List Int) : Nat → List Up → Sta → List Up × Sta
  | 0, l, s => (l, s)
  | n + 1, l, s => match (rdUp b s).2.2 with
    | none => seqU b n (l ++ [(rdUp b s).1]) (rdUp b s).2
    | some _ => (l, (rdUp b s).2)

theorem room144 {xs ys : List Up} (h : xs.length + ys.length ≤ 100000) : roomI 144 xs ys = some (xs ++ ys) := by
  unfold roomI
  rw [if_pos (by omega)]

theorem loop_pre {b : List Int} (hb : okB b) {N : Nat} (hN : N ≤ 64) : ∀ (n i : Nat) (l : List Up) (s : Sta), i + n = N → l.length = i → okT b s →
    loopR (fun (z : ((List Up) × Int × Int × Unit) × (Rdr × Unit)) => batch_Prefix_s0 z.1.1 z.1.2.1 z.1.2.2.1 z.2.1) ((l, (N : Int), (i : Int), ()), rd b (s.1 : Int) s.2, ()) =
      some (((seqU b n l s).1, endS b (seqU b n l s).2, ()), ())
  | 0, i, l, s, hi, hl, h => by
    refine loopR_out ?_
    dsimp only
    unfold batch_Prefix_s0 seqU
    have he : wire_Reader_End_59d (((rd b (s.1 : Int) s.2).1.1, (rd b (s.1 : Int) s.2).1.2.1, (rd b (s.1 : Int) s.2).1.2.2.1, ()), ()) = _ := end_rd hb h
    rw [decide_eq_false (by omega), cond_false, he]
    rfl
  | n + 1, i, l, s, hi, hl, h => by
    have hu := h.up
    have hr : batch_read_59d (((rd b (s.1 : Int) s.2).1.1, (rd b (s.1 : Int) s.2).1.2.1, (rd b (s.1 : Int) s.2).1.2.2.1, ()), ()) = _ := up_rd hb h
    cases hf : (rdUp b s).2.2 with
    | none =>
      have ih := loop_pre hb hN n (i + 1) (l ++ [(rdUp b s).1]) (rdUp b s).2 (by omega) (by rw [List.length_append, hl]; rfl) hu
      have es : seqU b (n + 1) l s = seqU b n (l ++ [(rdUp b s).1]) (rdUp b s).2 := by
        rw [seqU, hf]
      rw [es]
      refine loopR_on ?_ ih
      dsimp only
      unfold batch_Prefix_s0 wire_Reader_Bad_59d
      rw [decide_eq_true (by omega), cond_true, hr, Option.bind_some]
      simp only [hf, Option.isNone_none, Bool.not_true, cond_false, Option.bind_some]
      rw [room144 (by rw [hl]; simp only [List.length_cons, List.length_nil]; omega), Option.bind_some, wi64 (by omega)]
    | some f =>
      have es : seqU b (n + 1) l s = (l, (rdUp b s).2) := by rw [seqU, hf]
      rw [es]
      refine loopR_out ?_
      dsimp only
      unfold batch_Prefix_s0 wire_Reader_Bad_59d
      rw [decide_eq_true (by omega), cond_true, hr, Option.bind_some]
      simp only [hf, Option.isNone_some, Bool.not_false, cond_true, Option.bind_some]
      have he := end_rd hb hu
      rw [hf] at he
      rw [he]
      rfl

/-- the count of a batch, and where the reading stands then -/
def cnt (b : List Int) : Int × Sta := rdNum b 0 none 1 64
def preU (b : List Int) : List Up × Sta := seqU b (cnt b).1.toNat [] (cnt b).2

theorem cnt_ok {b : List Int} (hb : okB b) : okT b (cnt b).2 ∧ 0 ≤ (cnt b).1 ∧ (cnt b).1 ≤ 64 ∧ ((cnt b).1 = 0 ∨ (cnt b).2.2 = none) := by
  have h : okT b ((0, none) : Sta) := ⟨by dsimp only; omega, okF_none⟩
  have h1 := h.num (k := 1) (m := 64)
  have h2 := num_le (s := (0, none)) (m := 64) hb (by omega)
  refine ⟨h1, h2.1, h2.2, ?_⟩
  unfold cnt rdNum
  dsimp only
  split
  · split
    · exact Or.inl rfl
    · exact Or.inr rfl
  · exact Or.inl rfl

theorem prefix_rd {b : List Int} (hb : okB b) : batch_Prefix b = some (((preU b).1, endS b (preU b).2, ()), ()) := by
  obtain ⟨h1, h2, h3, h4⟩ := cnt_ok hb
  have hlen := hb.len
  unfold batch_Prefix wire_Read
  rw [bytes_Clone_ok (by omega), Option.bind_some, Option.bind_some]
  dsimp only
  rw [first_rd hb, Option.bind_some]
  have key := loop_pre hb (N := (cnt b).1.toNat) (by omega) (cnt b).1.toNat 0 [] (cnt b).2 (by omega) rfl h1
  rw [show (((cnt b).1.toNat : Nat) : Int) = (cnt b).1 by omega] at key
  exact key

theorem decode_rd {b : List Int} (hb : okB b) : batch_Decode b = some (((bif (endF b (preU b).2).isNone then (preU b).1 else []), ((preU b).1.length : Int), endS b (preU b).2, ()), ()) := by
  unfold batch_Decode
  rw [prefix_rd hb, Option.bind_some]
  dsimp only
  rw [nil_end]
  unfold endS
  cases endF b (preU b).2 with
  | none => rfl
  | some f => rfl

end Go.L

namespace Go.L
open Go Go.Pv
set_option maxRecDepth 100000

theorem rdVecs_len {b : List Int} {s : Sta} {m : Int} (hb : okB b) (h : okT b s) (hm : 0 ≤ m) : ((rdVecs b s m).1.length : Int) ≤ m ∧ (rdVecs b s m).1.length ≤ 255 := by
  have hc := rdCount_le (s := s) hb hm
  have hq := (seqV_ok (b := b) (h.count (m := m)) (rdCount b s m).1.toNat).2
  unfold rdVecs
  cases (seqV b (rdCount b s m).1.toNat (rdCount b s m).2).2.2.isNone with
  | true => dsimp only [cond_true]; omega
  | false => simp only [cond_false, List.length_nil]; omega

theorem rdNums_len {b : List Int} {s : Sta} {c m : Int} (hb : okB b) (h : okT b s) (hm : 0 ≤ c) : ((rdNums b s c m).1.length : Int) ≤ c ∧ (rdNums b s c m).1.length ≤ 255 := by
  have hc := rdCount_le (s := s) hb hm
  have hq := (seqN_ok (b := b) (m := m) (h.count (m := c)) (rdCount b s c).1.toNat).2
  unfold rdNums
  cases (seqN b m (rdCount b s c).1.toNat (rdCount b s c).2).2.2.isNone with
  | true => dsimp only [cond_true]; omega
  | false => simp only [cond_false, List.length_nil]; omega

theorem rdUp_small {b : List Int} {s : Sta} (hb : okB b) (h : okT b s) : okS (rdUp b s).1 := by
  have hT := (h.num (k := 1) (m := 4)).num (k := 1) (m := 255)
  unfold rdUp okS
  dsimp only
  generalize rdNum b s.1 s.2 1 4 = k at *
  generalize rdNum b k.2.1 k.2.2 1 255 = t at *
  split
  · have := (rdNums_len (m := 255) hb hT (show (0 : Int) ≤ 64 by omega)).2
    exact ⟨by simp, by simp, by simp, by dsimp only; omega⟩
  · have e1 := (rdVecs_len hb hT (show (0 : Int) ≤ 4 by omega)).2
    have e2 := (rdVecs_len hb (hT.vecs (m := 4)) (show (0 : Int) ≤ 4 by omega)).2
    have e3 := fun (s : Sta) (h : okT b s) => (rdVecs_len hb (h.num (k := 1) (m := 255)) (show (0 : Int) ≤ 8 by omega)).2
    have e4 := fun (s : Sta) (h : okT b s) => (show (rdCall b s).1.2.length ≤ 255 from e3 s h)
    have e5 : (rdMatch b t.2).1.1.length ≤ 255 := e1
    have e6 : (rdMatch b t.2).1.2.1.length ≤ 255 := e2
    have c1 := e4 _ hT
    have c2 := e4 _ hT.match
    refine ⟨?_, ?_, ?_, by simp⟩
    · by_cases h3 : k.1 = 3
      · simp [h3]
      · simp only [if_neg h3]; omega
    · by_cases h3 : k.1 = 3
      · simp [h3]
      · simp only [if_neg h3]; omega
    · by_cases h3 : k.1 = 3 <;> by_cases h2 : k.1 = 2 <;> simp only [h3, h2, if_true, if_false, List.length_nil, Int.reduceEq] <;> omega

theorem seqU_small {b : List Int} (hb : okB b) : ∀ (n : Nat) (l : List Up) (s : Sta), okT b s → (∀ u ∈ l, okS u) → (∀ u ∈ (seqU b n l s).1, okS u) ∧ (seqU b n l s).1.length ≤ l.length + n
  | 0, l, s, h, hl => ⟨hl, by unfold seqU; dsimp only; omega⟩
  | n + 1, l, s, h, hl => by
    unfold seqU
    split
    · have h2 := seqU_small hb n (l ++ [(rdUp b s).1]) (rdUp b s).2 h.up (fun u hu => by
        rcases List.mem_append.1 hu with h3 | h3
        · exact hl u h3
        · rw [List.mem_singleton.1 h3]; exact rdUp_small hb h)
      refine ⟨h2.1, Nat.le_trans h2.2 ?_⟩
      rw [List.length_append]
      simp only [List.length_cons, List.length_nil]
      omega
    · exact ⟨hl, by dsimp only; omega⟩

theorem pre_small {b : List Int} (hb : okB b) : (∀ u ∈ (preU b).1, okS u) ∧ (preU b).1.length ≤ 64 := by
  have h := cnt_ok hb
  have h2 := seqU_small hb (cnt b).1.toNat [] (cnt b).2 h.1 (fun u hu => by simp at hu)
  refine ⟨h2.1, Nat.le_trans h2.2 ?_⟩
  simp only [List.length_nil]
  omega

end Go.L
