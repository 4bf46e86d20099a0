/- The functions that the statements reach as plain Lean, and what they compute. -/
import Derived.Test.YtkpiocglghnnhaaDoorQ10

set_option linter.unusedSimpArgs false
set_option linter.unusedVariables false

namespace Go.L
open Go Go.Pv
set_option maxRecDepth 100000

abbrev V4L := Int × Int × Int × Unit
abbrev Tok := Int × List Int × Int × V4L × Int × Unit
def vZ : V4L := (0, 0, 0, ())
def tokZ : Tok := (0, [], 0, vZ, 0, ())

def bytesL (s : List Int) : Prop := ∀ v ∈ s, inR .u8 v = true

theorem bytesL.take {s : List Int} (h : bytesL s) (n : Nat) : bytesL (s.take n) := fun v hv => h v (List.mem_of_mem_take hv)
theorem bytesL.drop {s : List Int} (h : bytesL s) (n : Nat) : bytesL (s.drop n) := fun v hv => h v (List.mem_of_mem_drop hv)

theorem fstN_max (a0 a1 a2 a3 n : Nat) : (fstN a0 a1 a2 a3 n).1 ≤ 1114111 := by
 unfold fstN
 split
 ·show a0 ≤ _; omega
 split
 ·show 64 * (a0 - 192) + (a1 - 128) ≤ _; omega
 split
 ·show 4096 * (a0 - 224) + 64 * (a1 - 128) + (a2 - 128) ≤ _; omega
 split
 ·show 262144 * (a0 - 240) + 4096 * (a1 - 128) + 64 * (a2 - 128) + (a3 - 128) ≤ _; omega
 ·show 65533 ≤ _; omega

theorem fst5_max (l : List Int) : (((fst5 l).1 : Nat) : Int) ≤ 1114111 := by
 have := fstN_max (l.getD 0 0).toNat (l.getD 1 0).toNat (l.getD 2 0).toNat (l.getD 3 0).toNat l.length
 unfold fst5
 omega

theorem fst5_take {l : List Int} (h : l.length ≠ 0) : fst5 (l.take (fst5 l).2) = fst5 l := by
 have hw := fst5_w h
 have hlen : (l.take (fst5 l).2).length = (fst5 l).2 := by rw [List.length_take]; omega
 have hg : ∀ i, i < (fst5 l).2 → (l.take (fst5 l).2).getD i 0 = l.getD i 0 := fun i hi => by
  rw [List.getD_eq_getElem?_getD, List.getD_eq_getElem?_getD, List.getElem?_take, if_pos hi]
 have key : ∀ a0 a1 a2 a3 b1 b2 b3 n m : Nat, 1 ≤ n → m = (fstN a0 a1 a2 a3 n).2 → (1 < m → b1 = a1) → (2 < m → b2 = a2) → (3 < m → b3 = a3) → fstN a0 b1 b2 b3 m = fstN a0 a1 a2 a3 n := by
  intro a0 a1 a2 a3 b1 b2 b3 n m hn hm h1 h2 h3
  unfold fstN at hm ⊢
  by_cases c1 : a0 < 128
  ·rw [if_pos c1, if_pos c1]
  rw [if_neg c1] at hm
  rw [if_neg c1, if_neg c1]
  by_cases c2 : 194 ≤ a0 ∧ a0 < 224 ∧ 2 ≤ n ∧ 128 ≤ a1 ∧ a1 < 192
  ·rw [if_pos c2] at hm
   have hm : m = 2 := hm
   have e1 := h1 (by omega)
   subst hm e1
   rw [if_pos c2, if_pos (by omega)]
  rw [if_neg c2] at hm
  rw [if_neg c2]
  by_cases c3 : (224 ≤ a0 ∧ a0 < 240 ∧ 3 ≤ n ∧ 128 ≤ a1 ∧ a1 < 192 ∧ 128 ≤ a2 ∧ a2 < 192) ∧ 2048 ≤ 4096 * (a0 - 224) + 64 * (a1 - 128) + (a2 - 128) ∧ (4096 * (a0 - 224) + 64 * (a1 - 128) + (a2 - 128) < 55296 ∨ 57343 < 4096 * (a0 - 224) + 64 * (a1 - 128) + (a2 - 128))
  ·rw [if_pos c3] at hm
   have hm : m = 3 := hm
   have e1 := h1 (by omega)
   have e2 := h2 (by omega)
   subst hm e1 e2
   rw [if_pos c3, if_neg (by omega), if_pos (by omega)]
  rw [if_neg c3] at hm
  rw [if_neg c3]
  by_cases c4 : (240 ≤ a0 ∧ a0 < 245 ∧ 4 ≤ n ∧ 128 ≤ a1 ∧ a1 < 192 ∧ 128 ≤ a2 ∧ a2 < 192 ∧ 128 ≤ a3 ∧ a3 < 192) ∧ 65536 ≤ 262144 * (a0 - 240) + 4096 * (a1 - 128) + 64 * (a2 - 128) + (a3 - 128) ∧ 262144 * (a0 - 240) + 4096 * (a1 - 128) + 64 * (a2 - 128) + (a3 - 128) ≤ 1114111
  ·rw [if_pos c4] at hm
   have hm : m = 4 := hm
   have e1 := h1 (by omega)
   have e2 := h2 (by omega)
   have e3 := h3 (by omega)
   subst hm e1 e2 e3
   rw [if_pos c4, if_neg (by omega), if_neg (by omega), if_pos (by omega)]
  rw [if_neg c4] at hm
  have hm : m = 1 := hm
  subst hm
  rw [if_neg c4, if_neg (by omega), if_neg (by omega), if_neg (by omega)]
 have := key (l.getD 0 0).toNat (l.getD 1 0).toNat (l.getD 2 0).toNat (l.getD 3 0).toNat ((l.take (fst5 l).2).getD 1 0).toNat ((l.take (fst5 l).2).getD 2 0).toNat ((l.take (fst5 l).2).getD 3 0).toNat l.length (fst5 l).2 (by omega) rfl
  (fun h => by rw [hg 1 (by omega)]) (fun h => by rw [hg 2 (by omega)]) (fun h => by rw [hg 3 (by omega)])
 generalize (fst5 l).2 = w at *
 show fstN ((l.take w).getD 0 0).toNat ((l.take w).getD 1 0).toNat ((l.take w).getD 2 0).toNat ((l.take w).getD 3 0).toNat (l.take w).length = fst5 l
 rw [hlen, hg 0 (by omega)]
 exact this

theorem next_at {s : List Int} (hs : bytesL s) {p : Nat} (hp : p < s.length) : nextS (s, (p : Int)) = .inr (((fst5 (s.drop p)).1 : Int), ((p + (fst5 (s.drop p)).2 : Nat) : Int)) := by
 unfold nextS
 rw [if_pos (by show (p : Int) < (s.length : Int); omega), runeAt_fst hs hp]
 simp

theorem next_end (s : List Int) : nextS (s, (s.length : Int)) = .inl () := by
 unfold nextS
 rw [if_neg (by show ¬ (s.length : Int) < (s.length : Int); omega)]

theorem clip_ok {s : List Int} (hs : bytesL s) (h0 : s.length ≠ 0) (hn : s.length ≤ 100000) : name_Clip s 1 = some ((s.take (fst5 s).2, ()), ()) := by
 have hw := fst5_w h0
 unfold name_Clip
 refine loopR_on (y := ((s, 0, (s, ((fst5 s).2 : Int)), ()), ())) ?_ ?_
 ·dsimp only
  unfold name_Clip_s0
  have := next_at hs (p := 0) (by omega)
  rw [List.drop_zero] at this
  rw [show ((s, 0) : List Int × Int) = (s, ((0 : Nat) : Int)) from rfl, this]
  simp only [show decide ((1 : Int) < 1) = false from rfl, cond_false, Nat.zero_add]
  rfl
 ·refine loopR_out ?_
  dsimp only
  unfold name_Clip_s0
  by_cases he : (fst5 s).2 = s.length
  ·rw [he, next_end, List.take_length]
  ·rw [next_at hs (by omega)]
   simp only [show decide ((0 : Int) < 1) = true from rfl, cond_true]
   rw [subL_take (by omega)]
   rfl

theorem runes_one {t : List Int} (ht : bytesL t) (h0 : t.length ≠ 0) (hw : (fst5 t).2 = t.length) : name_Runes t = some (([((fst5 t).1 : Int)], ()), ()) := by
 unfold name_Runes
 refine loopR_on (y := (([((fst5 t).1 : Int)], (t, (t.length : Int)), ()), ())) ?_ ?_
 ·dsimp only
  unfold name_Runes_s0
  have := next_at ht (p := 0) (by omega)
  rw [List.drop_zero] at this
  rw [show ((t, 0) : List Int × Int) = (t, ((0 : Nat) : Int)) from rfl, this]
  simp only [Nat.zero_add, hw]
  rfl
 ·refine loopR_out ?_
  dsimp only
  unfold name_Runes_s0
  rw [next_end]

def lngR (p : Int → Bool) : Nat → List Int → Nat
 | 0, _ => 0
 | k + 1, l => if l.length = 0 then 0 else if p ((fst5 l).1 : Int) = true then (fst5 l).2 + lngR p k (l.drop (fst5 l).2) else 0
def lng (p : Int → Bool) (l : List Int) : Nat := lngR p l.length l

theorem lngR_le (p : Int → Bool) : ∀ (k : Nat) (l : List Int), lngR p k l ≤ l.length
 | 0, _ => by unfold lngR; omega
 | k + 1, l => by
  unfold lngR
  by_cases h0 : l.length = 0
  ·rw [if_pos h0]; omega
  ·rw [if_neg h0]
   have hw := fst5_w h0
   split
   ·have := lngR_le p k (l.drop (fst5 l).2)
    rw [List.length_drop] at this
    omega
   ·omega

theorem lngR_eq (p : Int → Bool) : ∀ (k : Nat) (l : List Int), l.length ≤ k → lngR p k l = lng p l
 | 0, l, h => by
  have : l.length = 0 := by omega
  unfold lng
  rw [this]
 | k + 1, l, h => by
  unfold lng
  by_cases h0 : l.length = 0
  ·rw [h0]; unfold lngR; rw [if_pos h0]
  ·obtain ⟨m, hm⟩ : ∃ m, l.length = m + 1 := ⟨l.length - 1, by omega⟩
   have hw := fst5_w h0
   rw [hm, lngR, lngR, if_neg h0, if_neg h0, lngR_eq p k _ (by rw [List.length_drop]; omega), lngR_eq p m _ (by rw [List.length_drop]; omega)]

theorem lng_le (p : Int → Bool) (l : List Int) : lng p l ≤ l.length := lngR_le p _ l

theorem lng_eq (p : Int → Bool) {l : List Int} (h : l.length ≠ 0) : lng p l = if p ((fst5 l).1 : Int) = true then (fst5 l).2 + lng p (l.drop (fst5 l).2) else 0 := by
 have hw := fst5_w h
 have e := lngR_eq p (l.length - 1 + 1) l (by omega)
 rw [← e, lngR, if_neg h, lngR_eq p _ _ (by rw [List.length_drop]; omega)]

theorem lng_nil (p : Int → Bool) {l : List Int} (h : l.length = 0) : lng p l = 0 := by unfold lng; rw [h]; rfl

theorem long_loop {f : Int → Option ((Bool × Unit) × Unit)} {p : Int → Bool} (hf : ∀ c, f c = some ((p c, ()), ())) {F : (List Int × (List Int × Int) × Unit) × Unit → Option (((List Int × (List Int × Int) × Unit) × Unit) ⊕ ((Int × Unit) × Unit))}
  (hF : ∀ s q, F ((s, q, ()), ()) = match nextS q with
   | .inl _ => some (.inr (((s.length : Int), ()), ()))
   | .inr y => (f y.1).bind fun r => bif !r.1.1 then some (.inr ((q.2, ()), ())) else some (.inl ((s, (q.1, y.2), ()), ()))) {s : List Int} (hs : bytesL s) : loopR F ((s, (s, 0), ()), ()) = some (((lng p s : Int), ()), ()) := by
 have main : ∀ (k n : Nat), s.length - n ≤ k → n ≤ s.length → loopR F ((s, (s, (n : Int)), ()), ()) = some ((((n + lng p (s.drop n) : Nat) : Int), ()), ()) := by
  intro k
  induction k with
  | zero =>
   intro n h1 h2
   obtain rfl : n = s.length := by omega
   refine loopR_out ?_
   rw [hF, next_end, lng_nil p (by rw [List.length_drop]; omega), Nat.add_zero]
  | succ k ih =>
   intro n h1 h2
   by_cases he : n = s.length
   ·subst he
    refine loopR_out ?_
    rw [hF, next_end, lng_nil p (by rw [List.length_drop]; omega), Nat.add_zero]
   ·have h0 : (s.drop n).length ≠ 0 := by rw [List.length_drop]; omega
    have hw := fst5_w h0
    have hdl : (s.drop n).length = s.length - n := List.length_drop
    rw [lng_eq p h0]
    by_cases hp : p ((fst5 (s.drop n)).1 : Int) = true
    ·rw [if_pos hp]
     refine loopR_on (y := ((s, (s, ((n + (fst5 (s.drop n)).2 : Nat) : Int)), ()), ())) ?_ ?_
     ·rw [hF, next_at hs (by omega)]
      dsimp only
      rw [hf, Option.bind_some]
      dsimp only
      rw [hp, Bool.not_true, cond_false]
     ·rw [ih _ (by omega) (by omega), List.drop_drop]
      congr 4
      omega
    ·have hp' : p ((fst5 (s.drop n)).1 : Int) = false := by simpa using hp
     rw [if_neg hp, Nat.add_zero]
     refine loopR_out ?_
     rw [hF, next_at hs (by omega)]
     dsimp only
     rw [hf, Option.bind_some]
     dsimp only
     rw [hp', Bool.not_false, cond_true]
 have := main s.length 0 (by omega) (by omega)
 rw [Nat.zero_add, List.drop_zero] at this
 exact this

def dgt (c : Int) : Bool := letB c || digB c || decide (c = 39)

theorem inner_ok (c : Int) : lex_inner c = some ((okC c, ()), ()) := by
 unfold lex_inner okC
 rw [Letter_ok, Option.bind_some]
 cases letB c <;> simp only [Digit_ok, gtrue, gfalse, Bool.not_true, Bool.not_false, Option.bind_some, cond_true, cond_false, Bool.true_or, Bool.false_or]
 cases digB c <;> simp only [gtrue, gfalse, Bool.not_true, Bool.not_false, Option.bind_some, cond_true, cond_false, Bool.true_or, Bool.false_or]
 cases decide (c = 45) <;> simp only [gtrue, gfalse, Bool.not_true, Bool.not_false, Option.bind_some, cond_true, cond_false, Bool.true_or, Bool.false_or]

theorem one1_ok (c : Int) : lex_one_1 c = some ((dgt c, ()), ()) := by
 unfold lex_one_1 dgt
 rw [Letter_ok, Option.bind_some]
 cases letB c <;> simp only [Digit_ok, gtrue, gfalse, Bool.not_true, Bool.not_false, Option.bind_some, cond_true, cond_false, Bool.true_or, Bool.false_or]
 cases digB c <;> simp only [gtrue, gfalse, Bool.not_true, Bool.not_false, Option.bind_some, cond_true, cond_false, Bool.true_or, Bool.false_or]

theorem long_inner {s : List Int} (hs : bytesL s) : lex_long_8cc s = some (((lng okC s : Int), ()), ()) :=
 long_loop inner_ok (fun _ _ => rfl) hs

theorem long_dgt {s : List Int} (hs : bytesL s) : lex_long_b62 s = some (((lng dgt s : Int), ()), ()) :=
 long_loop one1_ok (fun _ _ => rfl) hs

theorem cutPrefix0x (s : List Int) : strings_CutPrefix s [48, 120] = some (((bif decide (s.take 2 = [48, 120]) then s.drop 2 else s), decide (s.take 2 = [48, 120]), ()), ()) := by
 unfold strings_CutPrefix internal_stringslite_CutPrefix internal_stringslite_HasPrefix
 have hl2 : (([48, 120] : List Int).length : Int) = ((2 : Nat) : Int) := rfl
 rw [hl2]
 by_cases h : 2 ≤ s.length
 ·simp only [decide_eq_true (show (s.length : Int) ≥ ((2 : Nat) : Int) by omega), gtrue, Option.bind_some, subL_take h, cond_true]
  cases decide (s.take 2 = [48, 120]) with
  | false => rfl
  | true =>
   simp only [Bool.not_true, cond_false, subL_drop h, Option.bind_some, cond_true]
 ·have hne : decide (s.take 2 = [48, 120]) = false := by
   refine decide_eq_false fun e => h ?_
   have := congrArg List.length e
   rw [List.length_take] at this
   simp only [List.length_cons, List.length_nil] at this
   omega
  simp only [decide_eq_false (show ¬ (s.length : Int) ≥ ((2 : Nat) : Int) by omega), gfalse, Option.bind_some, hne, cond_false, Bool.not_false, cond_true]

def numR (w : Nat) (c : Int) (a : Int) : Tok × Int × Unit :=
 if c = 4 ∨ c = 3 then ((2, [], 0, vZ, a, ()), 4, ()) else if c = 0 ∧ w < 9223372036854775808 then ((2, [], (w : Int), vZ, a, ()), 0, ()) else ((2, [], 0, vZ, a, ()), 7, ())

theorem bitLen63 {w : Nat} : (bitLen w : Int) > 63 ↔ 9223372036854775808 ≤ w := by
 unfold bitLen
 by_cases h : w = 0
 ·subst h; simp
 ·rw [if_neg h]
  have := @Nat.log2_lt w 63 h
  constructor
  ·intro hh
   rcases Nat.lt_or_ge w (2 ^ 63) with h1 | h1
   ·have := this.2 h1; omega
   ·exact h1
  ·intro hh
   rcases Nat.lt_or_ge w.log2 63 with h1 | h1
   ·have := this.1 h1
    have e : (2 : Nat) ^ 63 = 9223372036854775808 := rfl
    omega
   ·omega

theorem numbers {s : List Int} (hs : s.length ≤ 100000) (a : Int) : ∃ t e, lex_number s a = some ((t, e, ()), ()) ∧ ref06_Number s a = some ((t, e, ()), ()) ∧
  ((pos 39 s < s.length ∧ ∃ v c, vec_Parse s = some ((v, c, ()), ()) ∧ (t, e, ()) = (((3, [], 0, v, a, ()), c, ()) : Tok × Int × Unit)) ∨ (¬ pos 39 s < s.length ∧ ∃ w c, w < 340282366920938463463374607431768211456 ∧ word_Parse (if s.take 2 = [48, 120] then s.drop 2 else s) (if s.take 2 = [48, 120] then 16 else 10) = some ((wp w, c, ()), ()) ∧ (t, e, ()) = numR w c a)) := by
 have hup : ∀ n, n ≤ pos 39 s → (∀ i, i < n → (hi : i < s.length) → s[i] ≠ 39) := fun n hn i hi hil => by
  have := List.not_of_lt_findIdx (p := isB 39) (xs := s) (i := i) (by unfold pos at hn; omega)
  unfold isB at this
  simpa using this
 by_cases hq : pos 39 s < s.length
 ·obtain ⟨v, c, h1, h2⟩ := vparses hs
  refine ⟨(3, [], 0, v, a, ()), c, ?_, ?_, .inl ⟨hq, v, c, h1, rfl⟩⟩
  ·unfold lex_number
   rw [contains1, Option.bind_some, decide_eq_true hq, cond_true, h1]
   rfl
  ·unfold ref06_Number
   refine loop_up (f := fun (z : ((List Int) × Int × Unit) × ((Int × (List Int) × Int × (Int × Int × Int × Unit) × Int × Unit) × (Int × (List Int) × Int × (Int × Int × Int × Unit) × Int × Unit) × Unit)) => ref06_Number_s0 z.1.1 z.1.2.1 z.2.1 z.2.2.1) (fun i => ((s, (i : Int), ()), (0, [], 0, (0, 0, 0, ()), 0, ()), (2, [], 0, (0, 0, 0, ()), a, ()), ())) (pos 39 s) (fun i hi => ?_) ?_ 0 (by omega)
   ·dsimp only
    unfold ref06_Number_s0
    rw [dlt (by omega), cond_true, rdI_nat (by omega), Option.bind_some, decide_eq_false (hup _ (Nat.le_refl _) i hi (by omega)), cond_false, wi64 (by omega)]
   ·dsimp only
    unfold ref06_Number_s0
    have h39 : s[pos 39 s] = 39 := by
     exact of_decide_eq_true (List.findIdx_getElem (p := isB 39) (xs := s) (w := hq))
    rw [dlt hq, cond_true, rdI_nat hq, Option.bind_some, h39, decide_eq_true rfl, cond_true, h2]
    rfl
 ·have hpe : pos 39 s = s.length := by have := pos_le 39 s; omega

  have both : ∀ (l : List Int) (b : Int), l.length < 1000000000 → ∃ w c, w < 340282366920938463463374607431768211456 ∧ word_Parse l b = some ((wp w, c, ()), ()) ∧ ref01_Parse l b = some ((rowB (BitVec.ofNat 128 w), c, ()), ()) := fun l b hl => by
   obtain ⟨w, c, k1, k2, k3, _⟩ := parses (l := l) (b := b) hl
   exact ⟨w, c, k1, k2, k3⟩
  have lexT : ∀ (w : Nat) (c : Int), w < 340282366920938463463374607431768211456 → (guardR (!decide (c = 4)) (some ()) () fun _ =>
    guardR (!decide (c = 4)) (some (decide (c = 3))) false fun v_6 =>
    bif (bif decide (c = 4) then true else v_6) then
     some ((((2, [], 0, (0, 0, 0, ()), a, ()) : Tok), (4 : Int), ()), ())
    else
    guardR (!(!decide (c = 0))) (some ()) () fun _ =>
    guardR (!(!decide (c = 0))) (some (wp w).1) 0 fun v_9 =>
    guardR (!(!decide (c = 0))) (some (decide (v_9 > 0))) false fun v_10 =>
    guardR (!(bif (!decide (c = 0)) then true else v_10)) (some ()) () fun _ =>
    guardR (!(bif (!decide (c = 0)) then true else v_10)) (some (wp w).2.1) 0 fun v_12 =>
    guardR (!(bif (!decide (c = 0)) then true else v_10)) (some (decide (v_12 > 9223372036854775807))) false fun v_13 =>
    bif (bif (bif (!decide (c = 0)) then true else v_10) then true else v_13) then
     some (((2, [], 0, (0, 0, 0, ()), a, ()), 7, ()), ())
    else
    some (((2, [], (IntKind.i64.wrap (wp w).2.1), (0, 0, 0, ()), a, ()), 0, ()), ())) = some (numR w c a, ()) := by
   intro w c hw
   unfold numR
   have e1 : (wp w).1 = ((w / 18446744073709551616 : Nat) : Int) := rfl
   have e2 : (wp w).2.1 = ((w % 18446744073709551616 : Nat) : Int) := rfl
   rw [e1, e2]
   by_cases h4 : c = 4
   ·subst h4; rfl
   by_cases h3 : c = 3
   ·subst h3; rfl
   rw [if_neg (by omega)]
   simp only [decide_eq_false h4, decide_eq_false h3, Bool.not_false, gtrue, Option.bind_some, cond_false]
   by_cases h0 : c = 0
   ·subst h0
    simp only [decide_true, Bool.not_true, Bool.not_false, gtrue, Option.bind_some, cond_false]
    by_cases hh : w < 18446744073709551616
    ·rw [Nat.div_eq_of_lt hh, Nat.mod_eq_of_lt hh]
     simp only [show decide (((0 : Nat) : Int) > 0) = false from rfl, Bool.not_false, gtrue, Option.bind_some, cond_false]
     by_cases hh2 : w < 9223372036854775808
     ·rw [if_pos ⟨trivial, hh2⟩, decide_eq_false (by omega), cond_false, wrap_i64 (by omega) (by omega)]
      rfl
     ·rw [if_neg (by omega), decide_eq_true (by omega), cond_true]
      rfl
    ·rw [if_neg (by omega), decide_eq_true (show ((w / 18446744073709551616 : Nat) : Int) > 0 by omega)]
     rfl
   ·rw [if_neg (by omega), decide_eq_false h0]
    rfl
  have refT : ∀ (w : Nat) (c : Int), w < 340282366920938463463374607431768211456 → (guardR (!decide (c = 4)) (some ()) () fun _ =>
    guardR (!decide (c = 4)) (some (decide (c = 3))) false fun v_15 =>
    bif (bif decide (c = 4) then true else v_15) then
     some ((((2, [], 0, (0, 0, 0, ()), a, ()) : Tok), (4 : Int), ()), ())
    else
    guardR (!(!decide (c = 0))) (some (rowB (BitVec.ofNat 128 w))) (List.replicate 128 false) fun v_18 =>
    guardR (!(!decide (c = 0))) (ref01_Len v_18) ((0, ()), ()) fun r_19 =>
    guardR (!(!decide (c = 0))) (some (decide (r_19.1.1 > 63))) false fun v_20 =>
    bif (bif (!decide (c = 0)) then true else v_20) then
     some (((2, [], 0, (0, 0, 0, ()), a, ()), 7, ()), ())
    else
    (ref01_Halves (rowB (BitVec.ofNat 128 w))).bind fun r_22 =>
    some (((2, [], (IntKind.i64.wrap r_22.1.2.1), (0, 0, 0, ()), a, ()), 0, ()), ())) = some (numR w c a, ()) := by
   intro w c hw
   unfold numR
   by_cases h4 : c = 4
   ·subst h4; rfl
   by_cases h3 : c = 3
   ·subst h3; rfl
   rw [if_neg (by omega)]
   simp only [decide_eq_false h4, decide_eq_false h3, Bool.not_false, gtrue, Option.bind_some, cond_false]
   by_cases h0 : c = 0
   ·subst h0
    simp only [decide_true, Bool.not_true, Bool.not_false, gtrue, Option.bind_some, cond_false, ref01_Len_ok, BitVec.toNat_ofNat, Nat.mod_eq_of_lt (show w < 2 ^ 128 from hw), halves_wp hw]
    by_cases hh2 : w < 9223372036854775808
    ·rw [if_pos ⟨trivial, hh2⟩, decide_eq_false (fun q => by have := bitLen63.1 q; omega), cond_false]
     have e2 : (wp w).2.1 = ((w % 18446744073709551616 : Nat) : Int) := rfl
     rw [e2, Nat.mod_eq_of_lt (by omega), wrap_i64 (by omega) (by omega)]
     rfl
    ·rw [if_neg (by omega), decide_eq_true (bitLen63.2 (by omega)), cond_true]
     rfl
   ·rw [if_neg (by omega), decide_eq_false h0]
    simp only [Bool.not_false, Bool.not_true, gfalse, cond_true]
    rfl
  have fin : ∀ (l : List Int) (b : Int), l.length < 1000000000 → (if s.take 2 = [48, 120] then s.drop 2 else s) = l → (if s.take 2 = [48, 120] then (16 : Int) else 10) = b → ∃ t e, lex_number s a = some ((t, e, ()), ()) ∧ ref06_Number s a = some ((t, e, ()), ()) ∧ ∃ w c, w < 340282366920938463463374607431768211456 ∧ word_Parse l b = some ((wp w, c, ()), ()) ∧ (t, e, ()) = numR w c a := by
   intro l b hl e1 e2
   obtain ⟨w, c, k1, k2, k3⟩ := both l b hl
   refine ⟨(numR w c a).1, (numR w c a).2.1, ?_, ?_, w, c, k1, k2, rfl⟩
   ·unfold lex_number
    rw [contains1, Option.bind_some, decide_eq_false hq, cond_false, cutPrefix0x, Option.bind_some]
    by_cases h : s.take 2 = [48, 120]
    ·rw [if_pos h] at e1 e2
     subst e1 e2
     rw [decide_eq_true h]
     simp only [cond_true]
     rw [k2, Option.bind_some]
     exact lexT w c k1
    ·rw [if_neg h] at e1 e2
     subst e1 e2
     rw [decide_eq_false h]
     simp only [cond_false]
     rw [k2, Option.bind_some]
     exact lexT w c k1
   ·unfold ref06_Number
    refine loop_up (f := fun (z : ((List Int) × Int × Unit) × ((Int × (List Int) × Int × (Int × Int × Int × Unit) × Int × Unit) × (Int × (List Int) × Int × (Int × Int × Int × Unit) × Int × Unit) × Unit)) => ref06_Number_s0 z.1.1 z.1.2.1 z.2.1 z.2.2.1) (fun i => ((s, (i : Int), ()), (0, [], 0, (0, 0, 0, ()), 0, ()), (2, [], 0, (0, 0, 0, ()), a, ()), ())) s.length (fun i hi => ?_) ?_ 0 (by omega)
    ·dsimp only
     unfold ref06_Number_s0
     rw [dlt hi, cond_true, rdI_nat hi, Option.bind_some, decide_eq_false (hup _ (Nat.le_refl _) i (by omega) hi), cond_false, wi64 (by omega)]
    ·dsimp only
     unfold ref06_Number_s0
     rw [dge, cond_false]
     dsimp only
     have els : s.take 2 ≠ [48, 120] → ((ref01_Parse s 10).bind fun r_24 =>
       guardR (!decide (r_24.1.2.1 = 4)) (some ()) () fun _ =>
       guardR (!decide (r_24.1.2.1 = 4)) (some (decide (r_24.1.2.1 = 3))) false fun v_26 =>
       bif (bif decide (r_24.1.2.1 = 4) then true else v_26) then
        some ((((2, [], 0, (0, 0, 0, ()), a, ()) : Tok), (4 : Int), ()), ())
       else
       guardR (!(!decide (r_24.1.2.1 = 0))) (some r_24.1.1) (List.replicate 128 false) fun v_29 =>
       guardR (!(!decide (r_24.1.2.1 = 0))) (ref01_Len v_29) ((0, ()), ()) fun r_30 =>
       guardR (!(!decide (r_24.1.2.1 = 0))) (some (decide (r_30.1.1 > 63))) false fun v_31 =>
       bif (bif (!decide (r_24.1.2.1 = 0)) then true else v_31) then
        some (((2, [], 0, (0, 0, 0, ()), a, ()), 7, ()), ())
       else
       (ref01_Halves r_24.1.1).bind fun r_33 =>
       some (((2, [], (IntKind.i64.wrap r_33.1.2.1), (0, 0, 0, ()), a, ()), 0, ()), ())) = some (numR w c a, ()) := by
      intro h
      rw [if_neg h] at e1 e2
      subst e1 e2
      rw [k3, Option.bind_some]
      exact refT w c k1
     by_cases h2 : 2 ≤ s.length
     ·have hs2 : subL s 0 2 = some (s.take 2) := subL_take (s := s) (i := 2) h2
      rw [decide_eq_true (show (s.length : Int) ≥ 2 by omega)]
      simp only [gtrue, Option.bind_some, hs2, cond_true]
      by_cases h : s.take 2 = [48, 120]
      ·rw [if_pos h] at e1 e2
       subst e1 e2
       rw [decide_eq_true h]
       have hsd : subL s 2 (s.length : Int) = some (s.drop 2) := subL_drop (s := s) (i := 2) h2
       simp only [cond_true]
       rw [hsd, Option.bind_some, k3, Option.bind_some]
       exact congrArg (Option.map Sum.inr) (refT w c k1)
      ·rw [decide_eq_false h, cond_false]
       exact congrArg (Option.map Sum.inr) (els h)
     ·have h : s.take 2 ≠ [48, 120] := fun e => h2 (by
       have := congrArg List.length e
       rw [List.length_take] at this
       simp only [List.length_cons, List.length_nil] at this
       omega)
      rw [decide_eq_false (show ¬ (s.length : Int) ≥ 2 by omega)]
      simp only [gfalse, cond_false]
      exact congrArg (Option.map Sum.inr) (els h)
  obtain ⟨t, e, h1, h2, h3⟩ := fin _ _ (by split <;> (try rw [List.length_drop]) <;> omega) rfl rfl
  exact ⟨t, e, h1, h2, .inr ⟨hq, h3⟩⟩

end Go.L

namespace Go.L
open Go Go.Pv
set_option maxRecDepth 100000

noncomputable def numT (s : List Int) (a : Int) : Tok × Int := match lex_number s a with
 | some ((t, e, _), _) => (t, e)
 | none => (tokZ, 0)

theorem numT_ok {s : List Int} (hs : s.length ≤ 100000) (a : Int) : lex_number s a = some (((numT s a).1, (numT s a).2, ()), ()) ∧ ref06_Number s a = some (((numT s a).1, (numT s a).2, ()), ()) := by
 obtain ⟨t, e, h1, h2, _⟩ := numbers hs a
 unfold numT
 rw [h1, h2]
 exact ⟨rfl, rfl⟩

noncomputable def oneT (s : List Int) (a : Int) : Tok × Nat × Int :=
 if isMark ((fst5 s).1 : Int) = true then ((0, s.take 1, 0, vZ, a, ()), 1, 0)
 else if letB ((fst5 s).1 : Int) = true then
  (if mayS (s.take (lng okC s)) = true then ((1, s.take (lng okC s), 0, vZ, a, ()), lng okC s, 0) else (tokZ, lng okC s, 2))
 else if digB ((fst5 s).1 : Int) = true then ((numT (s.take (lng dgt s)) a).1, lng dgt s, (numT (s.take (lng dgt s)) a).2)
 else (tokZ, 0, 4)

theorem lex_one_ok {s : List Int} (hs : bytesL s) (h0 : s.length ≠ 0) (hn : s.length ≤ 100000) (a : Int) : lex_one s a = some (((oneT s a).1, ((oneT s a).2.1 : Int), (oneT s a).2.2, ()), ()) := by
 have hw := fst5_w h0
 have ht : bytesL (s.take (fst5 s).2) := hs.take _
 have htl : (s.take (fst5 s).2).length = (fst5 s).2 := by rw [List.length_take]; omega
 have hft := fst5_take h0
 have hmx := fst5_max s
 unfold lex_one oneT
 rw [clip_ok hs h0 hn, Option.bind_some]
 dsimp only
 rw [runes_one ht (by omega) (by rw [hft, htl]), Option.bind_some, hft]
 generalize hc : ((fst5 s).1 : Int) = c at hmx
 have hc0 : 0 ≤ c := by omega
 dsimp only
 rw [show Option.map (fun _ => (0 : Int)) (ckI 0 ([c] : List Int).length) = some 0 from rfl, Option.bind_some, show rdI [c] 0 = some c from rfl, Option.bind_some, mark_ok hc0 hmx, Option.bind_some]
 dsimp only
 have hl1 := lng_le okC s
 have hl2 := lng_le dgt s
 cases hm : isMark c with
 | true =>
  rw [cond_true, if_pos rfl]
  have : subL s 0 1 = some (s.take 1) := subL_take (s := s) (i := 1) (by omega)
  rw [this]
  rfl
 | false =>
  rw [cond_false, if_neg (by simp), Letter_ok, Option.bind_some]
  dsimp only
  cases hL : letB c with
  | true =>
   rw [cond_true, if_pos rfl, long_inner hs, Option.bind_some]
   dsimp only
   rw [subL_take hl1, Option.bind_some, may_name (hs.take _) (by rw [List.length_take]; omega), Option.bind_some]
   dsimp only
   cases hM : mayS (s.take (lng okC s)) with
   | true => rfl
   | false => rfl
  | false =>
   rw [cond_false, if_neg (by simp), Digit_ok, Option.bind_some]
   dsimp only
   cases hD : digB c with
   | true =>
    rw [cond_true, if_pos rfl, long_dgt hs, Option.bind_some]
    dsimp only
    rw [subL_take hl2, Option.bind_some, (numT_ok (by rw [List.length_take]; omega) a).1]
    rfl
   | false => rfl

theorem one_pos {s : List Int} (h0 : s.length ≠ 0) (a : Int) (he : (oneT s a).2.2 = 0) : 1 ≤ (oneT s a).2.1 ∧ (oneT s a).2.1 ≤ s.length := by
 have hw := fst5_w h0
 have hl1 := lng_le okC s
 have hl2 := lng_le dgt s
 unfold oneT at he ⊢
 split
 ·exact ⟨Nat.le_refl _, by show 1 ≤ s.length; omega⟩
 ·rename_i hm
  rw [if_neg hm] at he
  split
  ·rename_i hL
   rw [if_pos hL] at he
   have hp : 1 ≤ lng okC s := by
    rw [lng_eq okC h0, if_pos (by unfold okC; rw [hL]; rfl)]; omega
   split
   ·exact ⟨hp, hl1⟩
   ·exact ⟨hp, hl1⟩
  ·rename_i hL
   rw [if_neg hL] at he
   split
   ·rename_i hD
    have hp : 1 ≤ lng dgt s := by
     rw [lng_eq dgt h0, if_pos (by unfold dgt; rw [hD]; simp)]; omega
    exact ⟨hp, hl2⟩
   ·rename_i hD
    rw [if_neg hD] at he
    exact absurd he (by decide)

noncomputable def scanF : Nat → List Int → Nat → List Tok → List Tok ⊕ (Int × Nat)
 | 0, _, _, acc => .inl acc
 | k + 1, l, a, acc => if l.length = 0 then .inl acc else
   if (oneT l (a : Int)).2.2 = 0 then
    scanF k ((l.drop (oneT l (a : Int)).2.1).drop (skipC false (l.drop (oneT l (a : Int)).2.1))) (a + (oneT l (a : Int)).2.1 + skipC false (l.drop (oneT l (a : Int)).2.1)) (acc ++ [(oneT l (a : Int)).1])
   else .inr ((oneT l (a : Int)).2.2, a)

noncomputable def scanT (s : List Int) : List Tok ⊕ (Int × Nat) := scanF s.length (s.drop (skipC false s)) (skipC false s) []

theorem room64 {α : Type} {xs ys : List α} (h : xs.length + ys.length ≤ 1000000) : roomI 64 xs ys = some (xs ++ ys) := by
 unfold roomI
 rw [if_pos (by omega)]

abbrev Err := (Option (Int × Int × Unit)) ⊕ Unit
def outL : List Tok ⊕ (Int × Nat) → ((List Tok × Err × Unit) × Unit)
 | .inl l => ((l, .inr (), ()), ())
 | .inr (e, p) => (([], .inl (some (e, (p : Int), ())), ()), ())
theorem lex_scan_ok {s : List Int} (hs : bytesL s) (hn : s.length ≤ 16384) : lex_Scan s = some (outL (scanT s)) := by
 unfold lex_Scan scanT
 have hsk := skipC_le false s
 rw [decide_eq_false (by omega), cond_false, lex_skip_ok hs (by omega), Option.bind_some]
 have main : ∀ (k a : Nat) (acc : List Tok), s.length - a ≤ k → a ≤ s.length → acc.length ≤ a →
   loopR (fun (z : ((List Int) × (List Tok) × Int × Unit) × (Unit)) => lex_Scan_s0 z.1.1 z.1.2.1 z.1.2.2.1) ((s, acc, (a : Int), ()), ()) = some (outL (scanF k (s.drop a) a acc)) := by
  intro k
  induction k with
  | zero =>
   intro a acc h1 h2 _
   obtain rfl : a = s.length := by omega
   refine loopR_out ?_
   dsimp only
   unfold lex_Scan_s0
   rw [dge, cond_false]
   rfl
  | succ k ih =>
   intro a acc h1 h2 h3
   unfold scanF
   by_cases he : a = s.length
   ·subst he
    rw [if_pos (by rw [List.length_drop]; omega)]
    refine loopR_out ?_
    dsimp only
    unfold lex_Scan_s0
    rw [dge, cond_false]
    rfl
   ·have hdl : (s.drop a).length = s.length - a := List.length_drop
    have h0 : (s.drop a).length ≠ 0 := by omega
    rw [if_neg h0]
    have hone := lex_one_ok (hs.drop a) h0 (by omega) (a : Int)
    by_cases hz : (oneT (s.drop a) (a : Int)).2.2 = 0
    ·rw [if_pos hz]
     obtain ⟨p1, p2⟩ := one_pos h0 (a : Int) hz
     generalize (oneT (s.drop a) (a : Int)).2.1 = n at *
     have hdd : (s.drop a).drop n = s.drop (a + n) := List.drop_drop
     have hsk2 := skipC_le false (s.drop (a + n))
     have hdl2 : (s.drop (a + n)).length = s.length - (a + n) := List.length_drop
     rw [hdd, List.drop_drop]
     generalize hj : skipC false (s.drop (a + n)) = j at *
     refine loopR_on (y := ((s, acc ++ [(oneT (s.drop a) (a : Int)).1], ((a + n + j : Nat) : Int), ()), ())) ?_ (ih (a + n + j) _ (by omega) (by omega) (by rw [List.length_append]; simp only [List.length_cons, List.length_nil]; omega))
     dsimp only
     unfold lex_Scan_s0
     rw [dlt (by omega), cond_true, subL_drop (by omega), Option.bind_some, hone, Option.bind_some]
     dsimp only
     rw [hz, decide_eq_true rfl, Bool.not_true, cond_false, room64 (by simp only [List.length_cons, List.length_nil]; omega), Option.bind_some]
     have hw1 : IntKind.i64.wrap ((a : Int) + (n : Int)) = ((a + n : Nat) : Int) := by rw [wrap_i64 (by omega) (by omega)]; omega
     rw [hw1, subL_drop (by omega), Option.bind_some, lex_skip_ok (hs.drop _) (by omega), Option.bind_some, hj]
     have hw2 : IntKind.i64.wrap (((a + n : Nat) : Int) + (j : Int)) = ((a + n + j : Nat) : Int) := by rw [wrap_i64 (by omega) (by omega)]; omega
     dsimp only
     rw [hw2]
    ·rw [if_neg hz]
     refine loopR_out ?_
     dsimp only
     unfold lex_Scan_s0
     rw [dlt (by omega), cond_true, subL_drop (by omega), Option.bind_some, hone, Option.bind_some]
     dsimp only
     rw [decide_eq_false hz, Bool.not_false, cond_true]
     rfl
 exact main s.length (skipC false s) [] (by omega) hsk (Nat.zero_le _)

end Go.L

namespace Go.L
open Go Go.Pv
set_option maxRecDepth 100000

theorem mod_succ (x i : Nat) : x % 2 ^ (i + 1) = x % 2 ^ i + (bif x.testBit i then 2 ^ i else 0) := by
 have h2 : x.testBit i = decide (x / 2 ^ i % 2 = 1) := Nat.testBit_eq_decide_div_mod_eq
 rw [h2, Nat.pow_succ, Nat.mod_mul]
 by_cases h : x / 2 ^ i % 2 = 1
 ·rw [decide_eq_true h, h, cond_true, Nat.mul_one]
 ·rw [decide_eq_false h, show x / 2 ^ i % 2 = 0 by omega, cond_false, Nat.mul_zero]

theorem two_s0 {op : List Int} {W x y : Nat} (hW : W ≤ 128) {v : Int × Int × Int × Unit} {r : ((Int × Int × Int × Unit) × Int × Unit) × Unit}
  (h : ref02_Two_s0 op (lrow W x.testBit) (lrow W y.testBit) (decide (x % 2 ^ W < y % 2 ^ W)) (decide (x % 2 ^ W = y % 2 ^ W)) (W : Int) v = some (.inr r)) :
  loopR (fun (z : ((List Int) × (List Bool) × (List Bool) × Bool × Bool × Int × Unit) × ((Int × Int × Int × Unit) × Unit)) => ref02_Two_s0 z.1.1 z.1.2.1 z.1.2.2.1 z.1.2.2.2.1 z.1.2.2.2.2.1 z.1.2.2.2.2.2.1 z.2.1) ((op, lrow W x.testBit, lrow W y.testBit, false, true, 0, ()), v, ()) = some r := by
 have key := loop_up (f := fun (z : ((List Int) × (List Bool) × (List Bool) × Bool × Bool × Int × Unit) × ((Int × Int × Int × Unit) × Unit)) => ref02_Two_s0 z.1.1 z.1.2.1 z.1.2.2.1 z.1.2.2.2.1 z.1.2.2.2.2.1 z.1.2.2.2.2.2.1 z.2.1) (fun i => ((op, lrow W x.testBit, lrow W y.testBit, decide (x % 2 ^ i < y % 2 ^ i), decide (x % 2 ^ i = y % 2 ^ i), (i : Int), ()), v, ())) W (r := r) ?_ h 0 (by omega)
 ·rw [Nat.pow_zero, Nat.mod_one, Nat.mod_one] at key
  exact key
 ·intro i hi
  dsimp only
  unfold ref02_Two_s0
  rw [lrow_len, lrow_len, decide_eq_true (show (i : Int) < (W : Int) by omega), cond_true, ck_nat hi, lrow_rd _ hi, Option.bind_some, ck_nat hi, lrow_rd _ hi, Option.bind_some, mod_succ x i, mod_succ y i, ck_nat hi, lrow_rd _ hi, Option.bind_some, wi64 (by omega)]
  have hx := Nat.mod_lt x (Nat.two_pow_pos i)
  have hy := Nat.mod_lt y (Nat.two_pow_pos i)
  generalize x % 2 ^ i = p at hx ⊢
  generalize y % 2 ^ i = q at hy ⊢
  generalize 2 ^ i = m at hx hy ⊢
  cases x.testBit i <;> cases y.testBit i
  ·rfl
  ·simp only [decide_eq_false (show ¬ false = true by decide), Bool.not_false, cond_true, cond_false]
   rw [decide_eq_true (show p + 0 < q + m by omega), decide_eq_false (show ¬ p + 0 = q + m by omega)]
  ·simp only [decide_eq_false (show ¬ true = false by decide), Bool.not_false, cond_true, cond_false]
   rw [decide_eq_false (show ¬ p + m < q + 0 by omega), decide_eq_false (show ¬ p + m = q + 0 by omega)]
  ·simp only [decide_true, Bool.not_true, cond_true, cond_false]
   rw [show decide (p + m < q + m) = decide (p < q) from decide_eq_decide.2 (by omega), show decide (p + m = q + m) = decide (p = q) from decide_eq_decide.2 (by omega)]

theorem of_one (b : Bool) : ref02_Of [b] = some ((vw 1 (bif b then 1 else 0), ()), ()) := by
 have h := ref02_Of_ok (n := 1) (X := bif b then 1 else 0) (by omega)
 have e : lrow 1 (bif b then 1 else 0 : Nat).testBit = [b] := by cases b <;> rfl
 rw [e] at h
 rw [h]
 cases b <;> rfl

theorem truth_ok (b : Bool) : vec_Truth b = some ((vw 1 (bif b then 1 else 0), ()), ()) := by cases b <;> rfl

def both (w u : Int) (x y : Nat) (r : (Int × Int × Int × Unit) × Int × Unit) : (Int × Int × Int × Unit) × Int × Unit :=
 bif may w x && may u y then (bif decide (w = u) then r else ((0, 0, 0, ()), 9, ())) else ((0, 0, 0, ()), 1, ())

theorem two_and_ok {w u : Int} {x y : Nat} (hx : x < 340282366920938463463374607431768211456) (hy : y < 340282366920938463463374607431768211456) : vec_two_d65 (vw w x) (vw u y) = some ((both w u x y (vw w (x &&& y), 0, ())), ()) := by
 have hpv : ((vw w x).1, (vw w x).2.1, (vw w x).2.2.1, ()) = vw w x := rfl
 have hpu : ((vw u y).1, (vw u y).2.1, (vw u y).2.2.1, ()) = vw u y := rfl
 unfold vec_two_d65 both
 rw [hpv, hpu, vec_May_ok hx, Option.bind_some]
 dsimp only
 cases hm : may w x
 ·simp only [Bool.not_false, Bool.not_true, gsome, gfalse, cond_true, cond_false, Bool.false_and]
 ·simp only [Bool.not_true, Bool.not_false, gsome, gtrue, cond_true, cond_false, Bool.true_and]
  rw [vec_May_ok hy, Option.bind_some]
  dsimp only
  cases hm2 : may u y
  ·rfl
  ·simp only [Bool.not_true, cond_false, cond_true]
   rw [show (vw w x).1 = w from rfl, show (vw u y).1 = u from rfl]
   by_cases h : w = u
   ·subst h
    obtain ⟨h1, h2, h3⟩ := may_of hm
    have hpx : ((wp x).1, (wp x).2.1, ()) = wp x := rfl
    have hpy : ((wp y).1, (wp y).2.1, ()) = wp y := rfl
    rw [decide_eq_true rfl, Bool.not_true, cond_false, cond_true, vec_Word_ok, Option.bind_some, vec_Word_ok, Option.bind_some]
    dsimp only
    have hl : x &&& y < 2 ^ w.toNat := Nat.and_lt_two_pow x (may_lt hm2)
    rw [word_And_ok hx hy, Option.bind_some]
    dsimp only
    rw [vec_Cut_ok h1 h2 (Nat.and_lt_two_pow (n := 128) x hy), Option.bind_some, Nat.mod_eq_of_lt hl]
   ·rw [decide_eq_false h]
    rfl

theorem vec_Less_ok {w u : Int} {x y : Nat} (hx : x < 340282366920938463463374607431768211456) (hy : y < 340282366920938463463374607431768211456) : vec_Less (vw w x) (vw u y) = some ((both w u x y (vw 1 (bif decide (x < y) then 1 else 0), 0, ())), ()) := by
 have hpv : ((vw w x).1, (vw w x).2.1, (vw w x).2.2.1, ()) = vw w x := rfl
 have hpu : ((vw u y).1, (vw u y).2.1, (vw u y).2.2.1, ()) = vw u y := rfl
 have hpx : ((wp x).1, (wp x).2.1, ()) = wp x := rfl
 have hpy : ((wp y).1, (wp y).2.1, ()) = wp y := rfl
 unfold vec_Less vec_told_44b
 rw [hpv, hpu, two_and_ok hx hy, Option.bind_some]
 have hc : decide (cmp x y < 0) = decide (x < y) := decide_eq_decide.2 (by unfold cmp; split <;> (try split) <;> omega)
 unfold both
 cases may w x
 ·rfl
 ·cases may u y
  ·rfl
  ·by_cases h : w = u
   ·subst h
    simp only [Bool.and_self, cond_true, decide_true, Bool.not_true, cond_false, vec_Word_ok, Option.bind_some, hpx, hpy, word_Cmp_ok hx hy, vec_Less_1, hc, truth_ok]
   ·simp only [decide_eq_false h]
    rfl

theorem ref02_less_ok {w u : Int} {x y : Nat} (hx : x < 340282366920938463463374607431768211456) (hy : y < 340282366920938463463374607431768211456) : ref02_Two [108, 101, 115, 115] (vw w x) (vw u y) = some ((both w u x y (vw 1 (bif decide (x < y) then 1 else 0), 0, ())), ()) := by
 have hpv : ((vw w x).1, (vw w x).2.1, (vw w x).2.2.1, ()) = vw w x := rfl
 have hpu : ((vw u y).1, (vw u y).2.1, (vw u y).2.2.1, ()) = vw u y := rfl
 unfold ref02_Two both
 rw [hpv, hpu, ref02_May_ok hx, Option.bind_some]
 dsimp only
 cases hm : may w x
 ·simp only [Bool.not_false, Bool.not_true, gsome, gfalse, cond_true, cond_false, Bool.false_and]
 ·simp only [Bool.not_true, Bool.not_false, gsome, gtrue, cond_true, cond_false, Bool.true_and]
  rw [ref02_May_ok hy, Option.bind_some]
  dsimp only
  cases hm2 : may u y
  ·rfl
  ·simp only [Bool.not_true, cond_false, cond_true]
   rw [show (vw w x).1 = w from rfl, show (vw u y).1 = u from rfl]
   by_cases h : w = u
   ·subst h
    obtain ⟨h1, h2, h3⟩ := may_of hm
    obtain ⟨W, rfl⟩ : ∃ W : Nat, w = W := ⟨w.toNat, by omega⟩
    have hxl := may_lt hm
    have hyl := may_lt hm2
    rw [Int.toNat_natCast] at hxl hyl
    rw [decide_eq_true rfl, Bool.not_true, cond_false, cond_true, ref02_Bits_ok hx, Option.bind_some, ref02_Bits_ok hy, Option.bind_some]
    dsimp only
    rw [show (min (W : Int) 128).toNat = W by omega]
    refine two_s0 (by omega) ?_
    unfold ref02_Two_s0
    rw [lrow_len, decide_eq_false (show ¬ (W : Int) < (W : Int) by omega), cond_false, show decide (([108, 101, 115, 115] : List Int) = [101, 113]) = false by decide, show decide (([108, 101, 115, 115] : List Int) = [108, 101, 115, 115]) = true by decide, cond_false, cond_true, of_one, Nat.mod_eq_of_lt hxl, Nat.mod_eq_of_lt hyl]
    rfl
   ·rw [decide_eq_false h]
    rfl

theorem within {w1 w2 w3 : Int} {x y z : Nat} (hx : x < 340282366920938463463374607431768211456) (hy : y < 340282366920938463463374607431768211456) (hz : z < 340282366920938463463374607431768211456) : ∃ r, vec_Within (vw w1 x) (vw w2 y) (vw w3 z) = some ((r, ()), ()) ∧ ref02_Within (vw w1 x) (vw w2 y) (vw w3 z) = some ((r, ()), ()) := by
 have hpx : ((vw w1 x).1, (vw w1 x).2.1, (vw w1 x).2.2.1, ()) = vw w1 x := rfl
 have hpy : ((vw w2 y).1, (vw w2 y).2.1, (vw w2 y).2.2.1, ()) = vw w2 y := rfl
 have hpz : ((vw w3 z).1, (vw w3 z).2.1, (vw w3 z).2.2.1, ()) = vw w3 z := rfl
 unfold vec_Within ref02_Within
 rw [hpx, hpy, hpz, vec_Less_ok hx hy, vec_Less_ok hz hx, ref02_less_ok hx hy, ref02_less_ok hz hx]
 simp only [Option.bind_some, gsome]
 exact ⟨_, rfl, rfl⟩

end Go.L

namespace Go.L
open Go Go.Pv
set_option maxRecDepth 100000

def neg (op : List Int) : Bool := decide (op = [115, 117, 98]) || decide (op = [115, 117, 98, 115, 97, 116])

def c0 (op : List Int) : Nat := bif neg op then 1 else 0

end Go.L

namespace Go.L
open Go Go.Pv
set_option maxRecDepth 100000

abbrev S1 := ((List Int) × Int × (List Bool) × Int × (List Bool) × Bool × Int × Unit) × ((Int × Int × Int × Unit) × Unit)
noncomputable abbrev f1 : S1 → Option (S1 ⊕ (((Int × Int × Int × Unit) × Int × Unit) × (Unit))) := fun z => ref02_One_s0 z.1.1 z.1.2.1 z.1.2.2.1 z.1.2.2.2.1 z.1.2.2.2.2.1 z.1.2.2.2.2.2.1 z.1.2.2.2.2.2.2.1 z.2.1

section
variable {n : Int} {W x i : Nat} {out : List Bool} {c : Bool} {v : Int × Int × Int × Unit}

end

end Go.L

namespace Go.L
open Go Go.Pv
set_option maxRecDepth 100000

theorem lt128 {w : Int} {x : Nat} (h : may w x = true) : x < 340282366920938463463374607431768211456 := by
 obtain ⟨h1, h2, h3⟩ := may_of h
 refine Nat.lt_of_lt_of_le (may_lt h) ?_
 rw [show 340282366920938463463374607431768211456 = 2 ^ 128 from rfl]
 exact Nat.pow_le_pow_right (by omega) (by omega)

theorem chr_39 (d : Nat) : chr d ≠ 39 := by unfold chr; split <;> omega

theorem text_short {W : Nat} (h : W < 1000) : (text 10 W).length ≤ 3 := by
 unfold text
 rw [List.length_reverse, List.length_map, D_eq (by omega)]
 by_cases h1 : W / 10 = 0
 ·rw [if_pos h1]; simp
 ·rw [if_neg h1, D_eq (by omega)]
  by_cases h2 : W / 10 / 10 = 0
  ·rw [if_pos h2]; simp
  ·rw [if_neg h2, D_eq (by omega), if_pos (by omega)]; simp

theorem vec_Parse_text {W x : Nat} (hm : may (W : Int) x = true) : vec_Parse (text 10 W ++ [39] ++ text 16 x) = some ((vw (W : Int) x, 0, ()), ()) := by
 have hx := lt128 hm
 obtain ⟨h1, h2, h3⟩ := may_of hm
 have hl1 := text_len (b := 10) (w := W) (by omega) (by omega)
 have hl2 := text_len (b := 16) (w := x) (by omega) hx
 have hs3 := text_short (W := W) (by omega)
 have hfind : (List.range (text 10 W ++ [39] ++ text 16 x).length).find? (fun i => decide ((text 10 W ++ [39] ++ text 16 x).getD i 0 = 39)) = some (text 10 W).length := by
  refine List.find?_range_eq_some.2 ⟨?_, ?_, fun j hj => ?_⟩
  ·refine decide_eq_true ?_
   simp [List.getD, List.append_assoc]
  ·exact List.mem_range.2 (by simp only [List.length_append, List.length_cons, List.length_nil]; omega)
  ·have he : (text 10 W ++ [39] ++ text 16 x).getD j 0 = (text 10 W).getD j 0 := by
    rw [List.append_assoc]
    simp [List.getD, List.getElem?_append_left hj]
   have hmem : (text 10 W).getD j 0 ∈ text 10 W := by
    simp only [List.getD, List.getElem?_eq_getElem hj, Option.getD_some]
    exact List.getElem_mem hj
   obtain ⟨d, _, hd⟩ := text_dig (by omega) hmem
   rw [he, hd, decide_eq_false (chr_39 d)]
   rfl
 have e10 : word_Parse (text 10 W) 10 = some ((wp W, 0, ()), ()) := by
  have := word_Parse_ok (b := 10) (l := text 10 W) (by omega) (by omega) (text_ne (by omega)) (by omega)
  rw [read_text (by omega) (by omega) (by omega)] at this
  exact this
 have e16 : word_Parse (text 16 x) 16 = some ((wp x, 0, ()), ()) := by
  have := word_Parse_ok (b := 16) (l := text 16 x) (by omega) (by omega) (text_ne (by omega)) (by omega)
  rw [read_text (by omega) (by omega) hx] at this
  exact this
 have ht : (text 10 W ++ [39] ++ text 16 x).take (text 10 W).length = text 10 W := by
  rw [List.append_assoc, List.take_left]
 have hd : (text 10 W ++ [39] ++ text 16 x).drop ((text 10 W).length + 1) = text 16 x := by
  have : (text 10 W).length + 1 = (text 10 W ++ [39]).length := by simp
  rw [this, List.drop_left]
 unfold vec_Parse
 rw [cut_some (by simp only [List.length_append, List.length_cons, List.length_nil]; omega) hfind, ht, hd, Option.bind_some]
 simp only [Bool.not_true, Bool.not_false, gsome, cond_true, cond_false, decide_eq_false (show ¬ ((text 10 W).length : Int) > 3 by omega), e10, e16, Option.bind_some, decide_true, show decide ((0 : Int) = 4) = false by decide, show decide ((0 : Int) = 3) = false by decide]
 have hw : IntKind.i64.wrap (wp W).2.1 = (W : Int) := by
  show IntKind.i64.wrap ((W % 18446744073709551616 : Nat) : Int) = _
  rw [wrap_i64 (by omega) (by omega)]
  omega
 rw [hw, width_ok, Option.bind_some, decide_eq_true (show 1 ≤ (W : Int) ∧ (W : Int) ≤ 128 from ⟨h1, h2⟩), vec_New_ok h1 h2 hx, decide_eq_true h3]
 rfl

end Go.L

namespace Go.L
open Go Go.Pv
set_option maxRecDepth 100000

theorem scan_step {k : Nat} {l : List Int} {a : Nat} {acc : List Tok} {t : Tok} {n : Nat} (h0 : l.length ≠ 0) (ho : oneT l (a : Int) = (t, n, 0)) :
  scanF (k + 1) l a acc = scanF k ((l.drop n).drop (skipC false (l.drop n))) (a + n + skipC false (l.drop n)) (acc ++ [t]) := by
 conv => lhs; unfold scanF
 rw [if_neg h0, ho, if_pos rfl]

theorem one_mark {l : List Int} {a : Int} (h : isMark ((fst5 l).1 : Int) = true) : oneT l a = ((0, l.take 1, 0, vZ, a, ()), 1, 0) := by
 unfold oneT
 rw [if_pos h]

theorem one_word {l : List Int} {a : Int} {n : Nat} (h1 : isMark ((fst5 l).1 : Int) = false) (h2 : letB ((fst5 l).1 : Int) = true) (hn : lng okC l = n) (h3 : mayS (l.take n) = true) : oneT l a = ((1, l.take n, 0, vZ, a, ()), n, 0) := by
 unfold oneT
 rw [if_neg (by rw [h1]; simp), if_pos h2, hn, if_pos h3]

theorem one_num {l : List Int} {a : Int} {n : Nat} {t : Tok} {e : Int} (h1 : isMark ((fst5 l).1 : Int) = false) (h2 : letB ((fst5 l).1 : Int) = false) (h3 : digB ((fst5 l).1 : Int) = true) (hn : lng dgt l = n) (ht : numT (l.take n) a = (t, e)) : oneT l a = (t, n, e) := by
 unfold oneT
 rw [if_neg (by rw [h1]; simp), if_neg (by rw [h2]; simp), if_pos h3, hn, ht]

theorem num_row {s : List Int} (hs : s.length ≤ 100000) (hq : pos 39 s < s.length) {v : V4L} {c : Int} (h : vec_Parse s = some ((v, c, ()), ())) (a : Int) : numT s a = ((3, [], 0, v, a, ()), c) := by
 obtain ⟨t, e, h1, _, hd⟩ := numbers hs a
 unfold numT
 rw [h1]
 rcases hd with ⟨_, v', c', h2, h3⟩ | ⟨h2, _⟩
 ·rw [h] at h2
  simp only [Option.some.injEq, Prod.mk.injEq, and_true] at h2
  obtain ⟨rfl, rfl⟩ := h2
  simp only [Prod.mk.injEq, and_true] at h3
  obtain ⟨h4, h5⟩ := h3
  dsimp only
  rw [h5]
  exact congrArg (fun t => (t, c)) (by obtain ⟨a1, a2, a3, a4, a5, _⟩ := t; simp only [Prod.mk.injEq] at h4; obtain ⟨rfl, rfl, rfl, rfl, rfl, _⟩ := h4; rfl)
 ·exact absurd hq h2

end Go.L
