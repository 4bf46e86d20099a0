/- The functions that the statements reach as plain Lean, and what they compute. -/
import Derived.Test.YtkpiocglghnnhaaDoorQ10

set_option linter.unusedSimpArgs false
set_option linter.unusedVariables false

namespace Go.L
open Go Go.Pv
set_option maxRecDepth 100000

def isB (c : Int) (x : Int) : Bool := decide (x = c)
def pos (c : Int) (s : List Int) : Nat := s.findIdx (isB c)

theorem pos_le (c : Int) (s : List Int) : pos c s ≤ s.length := List.findIdx_le_length
theorem pos_cons (c x : Int) (s : List Int) : pos c (x :: s) = if x = c then 0 else pos c s + 1 := by
 unfold pos
 rw [List.findIdx_cons]
 unfold isB
 by_cases h : x = c
 ·rw [decide_eq_true h, if_pos h]; rfl
 ·rw [decide_eq_false h, if_neg h]; rfl

theorem idx_pos (s : List Int) (c : Int) : idxI s c = if pos c s < s.length then (pos c s : Int) else -1 := by
 unfold idxI
 by_cases h : pos c s < s.length
 ·rw [if_pos h]
  have : (List.range s.length).find? (fun i => decide (s.getD i 0 = c)) = some (pos c s) := by
   refine List.find?_range_eq_some.2 ⟨?_, List.mem_range.2 h, fun j hj => ?_⟩
   ·have := List.findIdx_getElem (p := isB c) (xs := s) (w := h)
    rw [List.getD_eq_getElem?_getD, List.getElem?_eq_getElem h]
    exact this
   ·have hjl : j < s.length := by omega
    have := List.not_of_lt_findIdx (p := isB c) (xs := s) (i := j) hj
    rw [List.getD_eq_getElem?_getD, List.getElem?_eq_getElem hjl]
    unfold isB at this
    simpa using this
  rw [this]
 ·rw [if_neg h]
  have : (List.range s.length).find? (fun i => decide (s.getD i 0 = c)) = none := by
   refine List.find?_range_eq_none.2 fun j hj => ?_
   have hlt : j < pos c s := by have := pos_le c s; omega
   have := List.not_of_lt_findIdx (p := isB c) (xs := s) (i := j) hlt
   rw [List.getD_eq_getElem?_getD, List.getElem?_eq_getElem hj]
   unfold isB at this
   simpa using this
  rw [this]

theorem index1 (s : List Int) (c : Int) : internal_stringslite_Index s [c] = some ((idxI s c, ()), ()) := by
 unfold internal_stringslite_Index
 by_cases e : [c] = s
 ·subst e
  have h0 : idxI [c] c = 0 := by rw [idx_pos]; simp [pos_cons]
  rw [h0]
  simp only [List.length_cons, List.length_nil, show decide (((0 + 1 : Nat) : Int) = 0) = false from rfl, show decide (((0 + 1 : Nat) : Int) = 1) = true from rfl, Bool.not_false, gtrue, Option.bind_some, decide_true, cond_true, cond_false]
 ·have hr : rdI [c] 0 = some c := rfl
  have hi : internal_stringslite_IndexByte s c = some ((idxI s c, ()), ()) := rfl
  simp only [List.length_cons, List.length_nil, show decide (((0 + 1 : Nat) : Int) = 0) = false from rfl, show decide (((0 + 1 : Nat) : Int) = 1) = true from rfl, Bool.not_false, gtrue, Option.bind_some, decide_eq_false e, cond_true, cond_false, hr, hi]

theorem contains1 (s : List Int) (c : Int) : strings_Contains s [c] = some ((decide (pos c s < s.length), ()), ()) := by
 unfold strings_Contains strings_Index
 rw [index1, Option.bind_some, Option.bind_some, idx_pos]
 by_cases h : pos c s < s.length
 ·rw [if_pos h, decide_eq_true h]
  exact congrArg (fun b => some ((b, ()), ())) (decide_eq_true (show (pos c s : Int) ≥ 0 by omega))
 ·rw [if_neg h, decide_eq_false h]; rfl

theorem cut1 {s : List Int} (c : Int) (hs : s.length ≤ 1000000) : strings_Cut s [c] = some ((s.take (pos c s), s.drop (pos c s + 1), decide (pos c s < s.length), ()), ()) := by
 unfold strings_Cut internal_stringslite_Cut
 rw [index1, Option.bind_some, idx_pos]
 by_cases h : pos c s < s.length
 ·rw [if_pos h, decide_eq_true h]
  dsimp only
  rw [decide_eq_true (by omega), cond_true, subL_take (by omega), Option.bind_some, show IntKind.i64.wrap ((pos c s : Int) + (([c] : List Int).length : Int)) = ((pos c s + 1 : Nat) : Int) from wi64 (by omega), subL_drop (by omega)]
  rfl
 ·rw [if_neg h, decide_eq_false h]
  have hl := pos_le c s
  rw [List.take_of_length_le (by omega), List.drop_of_length_le (by omega)]
  rfl

theorem hasPrefix1 (s : List Int) (c : Int) : strings_HasPrefix s [c] = some ((decide (s.length ≠ 0 ∧ s.getD 0 0 = c), ()), ()) := by
 unfold strings_HasPrefix internal_stringslite_HasPrefix
 cases s with
 | nil => rfl
 | cons x r =>
  have hs : subL (x :: r) 0 (([c] : List Int).length : Int) = some [x] := by
   show subL (x :: r) 0 ((1 : Nat) : Int) = _
   rw [subL_take (by simp)]; rfl
  have hd : decide (((x :: r).length : Int) ≥ (([c] : List Int).length : Int)) = true := decide_eq_true (by simp only [List.length_cons, List.length_nil]; omega)
  simp only [hd, gtrue, Option.bind_some, hs, cond_true]
  congr 2
  simp

def marksL : List Int := [123, 125, 40, 41, 91, 93, 59, 58, 44, 61, 47, 38]
def isMark (c : Int) : Bool := marksL.contains c

theorem encode_high {r : Int} (h : 128 ≤ r) (hv : r < 55296 ∨ 57343 < r) (hm : r ≤ 1114111) : 2 ≤ (runeI r).length ∧ (runeI r).length ≤ 4 ∧ ∀ x ∈ runeI r, 128 ≤ x := by
 unfold runeI Utf8.encode
 have hval : Utf8.valid r = true := by
  unfold Utf8.valid
  simp
  omega
 obtain ⟨n, rfl⟩ : ∃ n : Nat, r = n := ⟨r.toNat, by omega⟩
 simp only [hval, if_true, Int.toNat_natCast]
 have hb : ∀ m : Nat, 128 ≤ m → m < 256 → (128 : Int) ≤ ((UInt8.ofNat m).toNat : Int) := fun m h1 h2 => by
  have e : (UInt8.ofNat m).toNat = m := by simp [UInt8.toNat_ofNat']; omega
  rw [e]; omega
 rw [if_neg (by omega)]
 split
 ·refine ⟨by simp [bytesOf], by simp [bytesOf], ?_⟩
  intro x hx
  simp only [bytesOf, List.map_cons, List.map_nil, List.mem_cons, List.mem_nil_iff, or_false] at hx
  rcases hx with rfl | rfl
  ·exact hb _ (by omega) (by omega)
  ·exact hb _ (by omega) (by omega)
 ·split
  ·refine ⟨by simp [bytesOf], by simp [bytesOf], ?_⟩
   intro x hx
   simp only [bytesOf, List.map_cons, List.map_nil, List.mem_cons, List.mem_nil_iff, or_false] at hx
   rcases hx with rfl | rfl | rfl
   ·exact hb _ (by omega) (by omega)
   ·exact hb _ (by omega) (by omega)
   ·exact hb _ (by omega) (by omega)
  ·refine ⟨by simp [bytesOf], by simp [bytesOf], ?_⟩
   intro x hx
   simp only [bytesOf, List.map_cons, List.map_nil, List.mem_cons, List.mem_nil_iff, or_false] at hx
   rcases hx with rfl | rfl | rfl | rfl
   ·exact hb _ (by omega) (by omega)
   ·exact hb _ (by omega) (by omega)
   ·exact hb _ (by omega) (by omega)
   ·exact hb _ (by omega) (by omega)

theorem pos_none {c : Int} : ∀ {s : List Int}, (∀ x ∈ s, x ≠ c) → pos c s = s.length
 | [], _ => rfl
 | x :: s, h => by rw [pos_cons, if_neg (h x (by simp)), pos_none fun y hy => h y (by simp [hy])]; rfl

theorem ck_low {c : Int} (h0 : 0 ≤ c) (h1 : c < 128) : IntKind.u8.wrap c = c := wrap_u8 h0 (by omega)

theorem mark_ok {c : Int} (hc : 0 ≤ c) (hm : c ≤ 1114111) : strings_ContainsRune [123, 125, 40, 41, 91, 93, 59, 58, 44, 61, 47, 38] c = some ((isMark c, ()), ()) := by
 unfold strings_ContainsRune strings_IndexRune
 have hib : ∀ (s : List Int) (v : Int), strings_IndexByte s v = some ((idxI s v, ()), ()) := fun _ _ => rfl
 by_cases h : c < 128
 ·simp only [decide_eq_true hc, decide_eq_true h, gtrue, Option.bind_some, cond_true, hib, ck_low hc h]
  rw [idx_pos]
  have key : ∀ l : List Int, decide ((if pos c l < l.length then (pos c l : Int) else -1) ≥ 0) = l.contains c := by
   intro l
   induction l with
   | nil => rfl
   | cons x r ih =>
    rw [pos_cons, List.contains_cons]
    by_cases e : x = c
    ·subst e
     simp
    ·rw [if_neg e, ← ih]
     have e' : (c == x) = false := by simpa using fun q => e q.symm
     rw [e', Bool.false_or]
     refine decide_eq_decide.2 ?_
     rw [List.length_cons]
     constructor
     ·intro hh
      split at hh
      ·rw [if_pos (by omega)]; omega
      ·omega
     ·intro hh
      split at hh
      ·rw [if_pos (by omega)]; omega
      ·omega
  exact congrArg (fun b => some ((b, ()), ())) (key _)
 ·have hno : isMark c = false := by
   unfold isMark marksL
   simp only [List.contains_cons, List.contains_nil, Bool.or_false, Bool.or_eq_false_iff]
   simp only [beq_eq_false_iff_ne]
   omega
  rw [hno]
  simp only [decide_eq_true hc, decide_eq_false h, gtrue, Option.bind_some, cond_true, cond_false]
  by_cases hE : c = 65533
  ·subst hE
   rw [decide_eq_true rfl, cond_true]
   have hl : loopR (fun (z : ((List Int × Int) × Unit) × (Unit)) => strings_IndexRune_s9 z.1.1) ((([123, 125, 40, 41, 91, 93, 59, 58, 44, 61, 47, 38], 0), ()), ()) = some ((-1, ()), ()) := by
    refine loop_up (fun i => ((([123, 125, 40, 41, 91, 93, 59, 58, 44, 61, 47, 38], (i : Int)), ()), ())) 12 (fun i hi => ?_) rfl 0 (by omega)
    dsimp only
    unfold strings_IndexRune_s9 nextS
    have : i = 0 ∨ i = 1 ∨ i = 2 ∨ i = 3 ∨ i = 4 ∨ i = 5 ∨ i = 6 ∨ i = 7 ∨ i = 8 ∨ i = 9 ∨ i = 10 ∨ i = 11 := by omega
    have hl8 : ∀ v ∈ ([123, 125, 40, 41, 91, 93, 59, 58, 44, 61, 47, 38] : List Int), inR .u8 v = true := by decide
    rw [if_pos (by simp; omega)]
    rw [runeAt_fst hl8 (by simpa using hi)]
    rcases this with rfl | rfl | rfl | rfl | rfl | rfl | rfl | rfl | rfl | rfl | rfl | rfl <;> rfl
   rw [hl]; rfl
  ·rw [decide_eq_false hE, cond_false]
   have hvr : unicode_utf8_ValidRune c = some ((decide (c < 55296 ∨ 57343 < c), ()), ()) := by
    unfold unicode_utf8_ValidRune
    by_cases h1 : c < 55296
    ·simp only [decide_eq_true hc, decide_eq_true h1, gtrue, Option.bind_some, cond_true, decide_eq_true (Or.inl h1 : c < 55296 ∨ 57343 < c)]
    ·by_cases h2 : 57343 < c
     ·simp only [decide_eq_true hc, decide_eq_false h1, decide_eq_true h2, decide_eq_true hm, gtrue, Option.bind_some, cond_true, cond_false, decide_eq_true (Or.inr h2 : c < 55296 ∨ 57343 < c)]
     ·simp only [decide_eq_true hc, decide_eq_false h1, decide_eq_false h2, gtrue, gfalse, Option.bind_some, cond_true, cond_false, decide_eq_false (fun q => q.elim h1 h2 : ¬ (c < 55296 ∨ 57343 < c))]
   rw [hvr, Option.bind_some]
   by_cases hv : c < 55296 ∨ 57343 < c
   ·rw [decide_eq_true hv]
    obtain ⟨k1, k2, k3⟩ := encode_high (by omega) hv hm
    generalize runeI c = rs at k1 k2 k3
    obtain ⟨m, hm'⟩ : ∃ m, rs.length = m + 1 := ⟨rs.length - 1, by omega⟩
    have hlast : IntKind.i64.wrap ((rs.length : Int) - 1) = (m : Int) := by rw [wi64d (by omega), hm']; omega
    rw [hlast]
    simp only [Bool.not_true, cond_false]
    have hlp : loopR (fun (z : ((List Int) × (List Int) × Int × Int × Unit) × (Unit)) => strings_IndexRune_s1 z.1.1 z.1.2.1 z.1.2.2.1 z.1.2.2.2.1) (([123, 125, 40, 41, 91, 93, 59, 58, 44, 61, 47, 38], rs, (m : Int), (m : Int), ()), ()) = some ((-1, ()), ()) := by
     refine loopR_out ?_
     dsimp only
     unfold strings_IndexRune_s1
     have hi : m < ([123, 125, 40, 41, 91, 93, 59, 58, 44, 61, 47, 38] : List Int).length := by show m < 12; omega
     have hlow : ∀ x ∈ ([123, 125, 40, 41, 91, 93, 59, 58, 44, 61, 47, 38] : List Int), x < 128 := by decide
     have hr2 : rdI rs (m : Int) = some rs[m] := rdI_nat (by omega)
     have hge := k3 rs[m] (List.getElem_mem _)
     have hlt := hlow _ (List.getElem_mem hi)
     rw [decide_eq_true (show (m : Int) < (([123, 125, 40, 41, 91, 93, 59, 58, 44, 61, 47, 38] : List Int).length : Int) by omega), cond_true, rdI_nat hi, Option.bind_some, hr2, Option.bind_some, decide_eq_false (by omega), Bool.not_false, cond_true, wi64 (by omega), subL_drop (by omega), Option.bind_some, Option.bind_some, hib, Option.bind_some, idx_pos]
     have hp : pos rs[m] (([123, 125, 40, 41, 91, 93, 59, 58, 44, 61, 47, 38] : List Int).drop (m + 1)) = (([123, 125, 40, 41, 91, 93, 59, 58, 44, 61, 47, 38] : List Int).drop (m + 1)).length := pos_none fun x hx => by
      have := hlow x (List.mem_of_mem_drop hx)
      omega
     rw [hp, if_neg (Nat.lt_irrefl _)]
     rfl
    rw [hlp]; rfl
   ·rw [decide_eq_false hv]; rfl

def ws (c : Int) : Bool := decide (c = 32) || decide (c = 9) || decide (c = 10) || decide (c = 13)

def wsSet : List Bool := ((((List.replicate 256 false).set 32 true).set 9 true).set 10 true).set 13 true

theorem wsSet_rd : ∀ n : Nat, n < 256 → rdI wsSet (n : Int) = some (ws (n : Int)) := by decide

theorem asciiSet_ws : strings_makeASCIISet [32, 9, 10, 13] = some ((wsSet, true, ()), ()) := by
 unfold strings_makeASCIISet
 refine loopR_on (y := (([32, 9, 10, 13], 1, ()), (List.replicate 256 false).set 32 true, ())) (by kernel_rfl) ?_
 refine loopR_on (y := (([32, 9, 10, 13], 2, ()), ((List.replicate 256 false).set 32 true).set 9 true, ())) (by kernel_rfl) ?_
 refine loopR_on (y := (([32, 9, 10, 13], 3, ()), (((List.replicate 256 false).set 32 true).set 9 true).set 10 true, ())) (by kernel_rfl) ?_
 refine loopR_on (y := (([32, 9, 10, 13], 4, ()), wsSet, ())) (by kernel_rfl) ?_
 exact loopR_out (by kernel_rfl)

theorem trimLeft_ws {s : List Int} (hs : ∀ v ∈ s, inR .u8 v = true) : strings_TrimLeft s [32, 9, 10, 13] = some ((s.dropWhile ws, ()), ()) := by
 unfold strings_TrimLeft
 cases s with
 | nil => rfl
 | cons x r =>
  have h1 : decide ((x :: r : List Int) = []) = false := rfl
  have h2 : decide (([32, 9, 10, 13] : List Int) = []) = false := rfl
  have h3 : decide ((([32, 9, 10, 13] : List Int).length : Int) = 1) = false := rfl
  simp only [h1, h2, h3, Bool.not_false, gtrue, gfalse, cond_true, cond_false, Option.bind_some, asciiSet_ws]
  have hmain : ∀ l : List Int, (∀ v ∈ l, inR .u8 v = true) → strings_trimLeftASCII l wsSet = some ((l.dropWhile ws, ()), wsSet, ()) := by
   intro l
   unfold strings_trimLeftASCII
   induction l with
   | nil => intro _; exact loopR_out rfl
   | cons y l ih =>
    intro hl
    have hy := u8_of (hl y (by simp))
    obtain ⟨n, hn⟩ : ∃ n : Nat, y = n := ⟨y.toNat, by omega⟩
    subst hn
    have hck : Option.map (fun _ => (n : Int)) (ckI (n : Int) 256) = some (n : Int) := by unfold ckI; rw [if_pos (by omega)]; rfl
    have hct : strings_asciiSet_contains wsSet (n : Int) = some ((ws (n : Int), ()), wsSet, ()) := by
     unfold strings_asciiSet_contains
     rw [hck, Option.bind_some, wsSet_rd n (by omega)]; rfl
    have hsub : subL ((n : Int) :: l) 1 (((n : Int) :: l).length : Int) = some l := by
     have := subL_drop (s := (n : Int) :: l) (i := 1) (by simp)
     exact this
    by_cases hw : ws (n : Int) = true
    ·rw [List.dropWhile_cons_of_pos hw]
     refine loopR_on (y := ((l, ()), wsSet, ())) ?_ (ih fun v hv => hl v (by simp [hv]))
     dsimp only
     unfold strings_trimLeftASCII_s0
     rw [decide_eq_true (by simp only [List.length_cons]; omega), cond_true, show rdI ((n : Int) :: l) 0 = some (n : Int) from rfl, Option.bind_some, hct, Option.bind_some, hw, Bool.not_true, cond_false, hsub]
     rfl
    ·have hw : ws (n : Int) = false := by simpa using hw
     rw [List.dropWhile_cons_of_neg (by rw [hw]; simp)]
     refine loopR_out ?_
     dsimp only
     unfold strings_trimLeftASCII_s0
     rw [decide_eq_true (by simp only [List.length_cons]; omega), cond_true, show rdI ((n : Int) :: l) 0 = some (n : Int) from rfl, Option.bind_some, hct, Option.bind_some, hw, Bool.not_false, cond_true]
  rw [hmain _ hs]
  rfl

def skipC : Bool → List Int → Nat
 | _, [] => 0
 | false, c :: r => if c = 35 then skipC true r + 1 else if ws c = true then skipC false r + 1 else 0
 | true, c :: r => if c = 10 then skipC false r + 1 else skipC true r + 1

theorem skF (c : Int) (r : List Int) : skipC false (c :: r) = if c = 35 then skipC true r + 1 else if ws c = true then skipC false r + 1 else 0 := by simp only [skipC]
theorem skT (c : Int) (r : List Int) : skipC true (c :: r) = if c = 10 then skipC false r + 1 else skipC true r + 1 := by simp only [skipC]
theorem skN (b : Bool) : skipC b [] = 0 := by simp only [skipC]

theorem skipC_le : ∀ (b : Bool) (l : List Int), skipC b l ≤ l.length
 | _, [] => by simp [skipC]
 | false, c :: r => by
  have h1 := skipC_le true r
  have h2 := skipC_le false r
  unfold skipC
  rw [List.length_cons]
  split
  ·omega
  ·split <;> omega
 | true, c :: r => by
  have h1 := skipC_le true r
  have h2 := skipC_le false r
  unfold skipC
  rw [List.length_cons]
  split <;> omega

theorem skip_ws : ∀ l : List Int, skipC false l = (l.length - (l.dropWhile ws).length) + skipC false (l.dropWhile ws)
 | [] => rfl
 | c :: r => by
  have ih := skip_ws r
  have hle : (r.dropWhile ws).length ≤ r.length := (List.dropWhile_sublist _).length_le
  by_cases hw : ws c = true
  ·have h35 : c ≠ 35 := by
    rintro rfl
    exact absurd hw (by decide)
   rw [List.dropWhile_cons_of_pos hw]
   rw [skF, if_neg h35, if_pos hw, ih, List.length_cons]
   omega
  ·rw [List.dropWhile_cons_of_neg hw]
   omega

theorem skip_rem : ∀ l : List Int, skipC true l = min (pos 10 l + 1) l.length + skipC false (l.drop (pos 10 l + 1))
 | [] => rfl
 | c :: r => by
  rw [skT, pos_cons]
  by_cases h : c = 10
  ·rw [if_pos h, if_pos h, List.drop_succ_cons, List.drop_zero, List.length_cons]
   omega
  ·rw [if_neg h, if_neg h, List.drop_succ_cons, skip_rem r, List.length_cons]
   omega

theorem lex_skip_ok {s : List Int} (hs : ∀ v ∈ s, inR .u8 v = true) (hn : s.length ≤ 100000) : lex_skip s = some (((skipC false s : Int), ()), ()) := by
 unfold lex_skip
 have main : ∀ (k : Nat) (l : List Int), l.length ≤ k → l.length ≤ s.length → (∀ v ∈ l, inR .u8 v = true) →
   loopR (fun (z : ((List Int) × (List Int) × Unit) × (Unit)) => lex_skip_s0 z.1.1 z.1.2.1) ((s, l, ()), ()) = some ((((s.length - l.length + skipC false l : Nat) : Int), ()), ()) := by
  intro k
  induction k with
  | zero =>
   intro l hk _ hl
   obtain rfl : l = [] := List.eq_nil_of_length_eq_zero (by omega)
   refine loopR_out ?_
   dsimp only
   unfold lex_skip_s0
   rw [trimLeft_ws hl, Option.bind_some, show ([] : List Int).dropWhile ws = [] from rfl, hasPrefix1, Option.bind_some]
   simp only [List.length_nil, ne_eq, not_true_eq_false, false_and, decide_false, Bool.not_false, cond_true]
   rw [skN]
   exact congrArg (fun n : Int => some (Sum.inr ((n, ()), ()))) (wrap_i64 (by omega) (by omega))
  | succ k ih =>
   intro l hk hls hl
   have hle : (l.dropWhile ws).length ≤ l.length := (List.dropWhile_sublist _).length_le
   have hsk := skip_ws l
   have hmem : ∀ v ∈ l.dropWhile ws, inR .u8 v = true := fun v hv => hl v ((List.dropWhile_sublist _).subset hv)
   generalize hd : l.dropWhile ws = d at *
   by_cases h35 : d.length ≠ 0 ∧ d.getD 0 0 = 35
   ·have hdn : d ≠ [] := by intro e; rw [e] at h35; exact h35.1 rfl
    obtain ⟨c, r, rfl⟩ := List.exists_cons_of_ne_nil hdn
    have hc : c = 35 := h35.2
    subst hc
    have hpos : pos 10 (35 :: r) = pos 10 r + 1 := by rw [pos_cons, if_neg (by decide)]
    rw [List.length_cons] at hle
    have hskr : skipC false (35 :: r) = skipC true r + 1 := by
     rw [skF, if_pos rfl]
    rw [hskr, skip_rem r, List.length_cons] at hsk
    refine loopR_on (y := ((s, r.drop (pos 10 r + 1), ()), ())) ?_ ?_
    ·dsimp only
     unfold lex_skip_s0
     rw [trimLeft_ws hl, Option.bind_some, hd, hasPrefix1, Option.bind_some, decide_eq_true h35, Bool.not_true, cond_false, cut1 10 (by rw [List.length_cons]; omega), Option.bind_some, hpos, List.drop_succ_cons]
    ·have h1 : (r.drop (pos 10 r + 1)).length = r.length - (pos 10 r + 1) := List.length_drop
     rw [ih (r.drop (pos 10 r + 1)) (by omega) (by omega) (fun v hv => hmem v (List.mem_cons_of_mem _ (List.mem_of_mem_drop hv))), h1]
     congr 4
     omega
   ·refine loopR_out ?_
    dsimp only
    unfold lex_skip_s0
    rw [trimLeft_ws hl, Option.bind_some, hd, hasPrefix1, Option.bind_some, decide_eq_false h35, Bool.not_false, cond_true]
    have h0 : skipC false d = 0 := by
     cases hdd : d with
     | nil => rfl
     | cons c r =>
      have hnw : ws c = false := by
       have := List.head?_dropWhile_not ws l
       rw [hd, hdd] at this
       simpa using this
      rw [skF]
      have hc : c ≠ 35 := by
       intro e
       apply h35
       rw [hdd, e]
       exact ⟨by simp, rfl⟩
      rw [if_neg hc, hnw]
      simp
    rw [hsk, h0]
    refine congrArg (fun n : Int => some (Sum.inr ((n, ()), ()))) ?_
    dsimp only
    rw [wrap_i64 (by omega) (by omega)]
    omega
 have := main s.length s (Nat.le_refl _) (Nat.le_refl _) hs
 rw [this, Nat.sub_self, Nat.zero_add]

end Go.L

namespace Go.L
open Go Go.Pv
set_option maxRecDepth 100000

abbrev V4L := Int × Int × Int × Unit
abbrev Tok := Int × List Int × Int × V4L × Int × Unit
def vZ : V4L := (0, 0, 0, ())
def tokZ : Tok := (0, [], 0, vZ, 0, ())

def bytesL (s : List Int) : Prop := ∀ v ∈ s, inR .u8 v = true

theorem bytesL.take {s : List Int} (h : bytesL s) (n : Nat) : bytesL (s.take n) := fun v hv => h v (List.mem_of_mem_take hv)
theorem bytesL.drop {s : List Int} (h : bytesL s) (n : Nat) : bytesL (s.drop n) := fun v hv => h v (List.mem_of_mem_drop hv)

theorem fstN_max (a0 a1 a2 a3 n : Nat) : (fstN a0 a1 a2 a3 n).1 ≤ 1114111 := by
 unfold fstN
 split
 ·show a0 ≤ _; omega
 split
 ·show 64 * (a0 - 192) + (a1 - 128) ≤ _; omega
 split
 ·show 4096 * (a0 - 224) + 64 * (a1 - 128) + (a2 - 128) ≤ _; omega
 split
 ·show 262144 * (a0 - 240) + 4096 * (a1 - 128) + 64 * (a2 - 128) + (a3 - 128) ≤ _; omega
 ·show 65533 ≤ _; omega

theorem fst5_max (l : List Int) : (((fst5 l).1 : Nat) : Int) ≤ 1114111 := by
 have := fstN_max (l.getD 0 0).toNat (l.getD 1 0).toNat (l.getD 2 0).toNat (l.getD 3 0).toNat l.length
 unfold fst5
 omega

theorem fst5_take {l : List Int} (h : l.length ≠ 0) : fst5 (l.take (fst5 l).2) = fst5 l := by
 have hw := fst5_w h
 have hlen : (l.take (fst5 l).2).length = (fst5 l).2 := by rw [List.length_take]; omega
 have hg : ∀ i, i < (fst5 l).2 → (l.take (fst5 l).2).getD i 0 = l.getD i 0 := fun i hi => by
  rw [List.getD_eq_getElem?_getD, List.getD_eq_getElem?_getD, List.getElem?_take, if_pos hi]
 have key : ∀ a0 a1 a2 a3 b1 b2 b3 n m : Nat, 1 ≤ n → m = (fstN a0 a1 a2 a3 n).2 → (1 < m → b1 = a1) → (2 < m → b2 = a2) → (3 < m → b3 = a3) → fstN a0 b1 b2 b3 m = fstN a0 a1 a2 a3 n := by
  intro a0 a1 a2 a3 b1 b2 b3 n m hn hm h1 h2 h3
  unfold fstN at hm ⊢
  by_cases c1 : a0 < 128
  ·rw [if_pos c1, if_pos c1]
  rw [if_neg c1] at hm
  rw [if_neg c1, if_neg c1]
  by_cases c2 : 194 ≤ a0 ∧ a0 < 224 ∧ 2 ≤ n ∧ 128 ≤ a1 ∧ a1 < 192
  ·rw [if_pos c2] at hm
   have hm : m = 2 := hm
   have e1 := h1 (by omega)
   subst hm e1
   rw [if_pos c2, if_pos (by omega)]
  rw [if_neg c2] at hm
  rw [if_neg c2]
  by_cases c3 : (224 ≤ a0 ∧ a0 < 240 ∧ 3 ≤ n ∧ 128 ≤ a1 ∧ a1 < 192 ∧ 128 ≤ a2 ∧ a2 < 192) ∧ 2048 ≤ 4096 * (a0 - 224) + 64 * (a1 - 128) + (a2 - 128) ∧ (4096 * (a0 - 224) + 64 * (a1 - 128) + (a2 - 128) < 55296 ∨ 57343 < 4096 * (a0 - 224) + 64 * (a1 - 128) + (a2 - 128))
  ·rw [if_pos c3] at hm
   have hm : m = 3 := hm
   have e1 := h1 (by omega)
   have e2 := h2 (by omega)
   subst hm e1 e2
   rw [if_pos c3, if_neg (by omega), if_pos (by omega)]
  rw [if_neg c3] at hm
  rw [if_neg c3]
  by_cases c4 : (240 ≤ a0 ∧ a0 < 245 ∧ 4 ≤ n ∧ 128 ≤ a1 ∧ a1 < 192 ∧ 128 ≤ a2 ∧ a2 < 192 ∧ 128 ≤ a3 ∧ a3 < 192) ∧ 65536 ≤ 262144 * (a0 - 240) + 4096 * (a1 - 128) + 64 * (a2 - 128) + (a3 - 128) ∧ 262144 * (a0 - 240) + 4096 * (a1 - 128) + 64 * (a2 - 128) + (a3 - 128) ≤ 1114111
  ·rw [if_pos c4] at hm
   have hm : m = 4 := hm
   have e1 := h1 (by omega)
   have e2 := h2 (by omega)
   have e3 := h3 (by omega)
   subst hm e1 e2 e3
   rw [if_pos c4, if_neg (by omega), if_neg (by omega), if_pos (by omega)]
  rw [if_neg c4] at hm
  have hm : m = 1 := hm
  subst hm
  rw [if_neg c4, if_neg (by omega), if_neg (by omega), if_neg (by omega)]
 have := key (l.getD 0 0).toNat (l.getD 1 0).toNat (l.getD 2 0).toNat (l.getD 3 0).toNat ((l.take (fst5 l).2).getD 1 0).toNat ((l.take (fst5 l).2).getD 2 0).toNat ((l.take (fst5 l).2).getD 3 0).toNat l.length (fst5 l).2 (by omega) rfl
  (fun h => by rw [hg 1 (by omega)]) (fun h => by rw [hg 2 (by omega)]) (fun h => by rw [hg 3 (by omega)])
 generalize (fst5 l).2 = w at *
 show fstN ((l.take w).getD 0 0).toNat ((l.take w).getD 1 0).toNat ((l.take w).getD 2 0).toNat ((l.take w).getD 3 0).toNat (l.take w).length = fst5 l
 rw [hlen, hg 0 (by omega)]
 exact this

theorem next_at {s : List Int} (hs : bytesL s) {p : Nat} (hp : p < s.length) : nextS (s, (p : Int)) = .inr (((fst5 (s.drop p)).1 : Int), ((p + (fst5 (s.drop p)).2 : Nat) : Int)) := by
 unfold nextS
 rw [if_pos (by show (p : Int) < (s.length : Int); omega), runeAt_fst hs hp]
 simp

theorem next_end (s : List Int) : nextS (s, (s.length : Int)) = .inl () := by
 unfold nextS
 rw [if_neg (by show ¬ (s.length : Int) < (s.length : Int); omega)]

theorem clip_ok {s : List Int} (hs : bytesL s) (h0 : s.length ≠ 0) (hn : s.length ≤ 100000) : name_Clip s 1 = some ((s.take (fst5 s).2, ()), ()) := by
 have hw := fst5_w h0
 unfold name_Clip
 refine loopR_on (y := ((s, 0, (s, ((fst5 s).2 : Int)), ()), ())) ?_ ?_
 ·dsimp only
  unfold name_Clip_s0
  have := next_at hs (p := 0) (by omega)
  rw [List.drop_zero] at this
  rw [show ((s, 0) : List Int × Int) = (s, ((0 : Nat) : Int)) from rfl, this]
  simp only [show decide ((1 : Int) < 1) = false from rfl, cond_false, Nat.zero_add]
  rfl
 ·refine loopR_out ?_
  dsimp only
  unfold name_Clip_s0
  by_cases he : (fst5 s).2 = s.length
  ·rw [he, next_end, List.take_length]
  ·rw [next_at hs (by omega)]
   simp only [show decide ((0 : Int) < 1) = true from rfl, cond_true]
   rw [subL_take (by omega)]
   rfl

theorem runes_one {t : List Int} (ht : bytesL t) (h0 : t.length ≠ 0) (hw : (fst5 t).2 = t.length) : name_Runes t = some (([((fst5 t).1 : Int)], ()), ()) := by
 unfold name_Runes
 refine loopR_on (y := (([((fst5 t).1 : Int)], (t, (t.length : Int)), ()), ())) ?_ ?_
 ·dsimp only
  unfold name_Runes_s0
  have := next_at ht (p := 0) (by omega)
  rw [List.drop_zero] at this
  rw [show ((t, 0) : List Int × Int) = (t, ((0 : Nat) : Int)) from rfl, this]
  simp only [Nat.zero_add, hw]
  rfl
 ·refine loopR_out ?_
  dsimp only
  unfold name_Runes_s0
  rw [next_end]

def lngR (p : Int → Bool) : Nat → List Int → Nat
 | 0, _ => 0
 | k + 1, l => if l.length = 0 then 0 else if p ((fst5 l).1 : Int) = true then (fst5 l).2 + lngR p k (l.drop (fst5 l).2) else 0
def lng (p : Int → Bool) (l : List Int) : Nat := lngR p l.length l

theorem lngR_le (p : Int → Bool) : ∀ (k : Nat) (l : List Int), lngR p k l ≤ l.length
 | 0, _ => by unfold lngR; omega
 | k + 1, l => by
  unfold lngR
  by_cases h0 : l.length = 0
  ·rw [if_pos h0]; omega
  ·rw [if_neg h0]
   have hw := fst5_w h0
   split
   ·have := lngR_le p k (l.drop (fst5 l).2)
    rw [List.length_drop] at this
    omega
   ·omega

theorem lngR_eq (p : Int → Bool) : ∀ (k : Nat) (l : List Int), l.length ≤ k → lngR p k l = lng p l
 | 0, l, h => by
  have : l.length = 0 := by omega
  unfold lng
  rw [this]
 | k + 1, l, h => by
  unfold lng
  by_cases h0 : l.length = 0
  ·rw [h0]; unfold lngR; rw [if_pos h0]
  ·obtain ⟨m, hm⟩ : ∃ m, l.length = m + 1 := ⟨l.length - 1, by omega⟩
   have hw := fst5_w h0
   rw [hm, lngR, lngR, if_neg h0, if_neg h0, lngR_eq p k _ (by rw [List.length_drop]; omega), lngR_eq p m _ (by rw [List.length_drop]; omega)]

theorem lng_le (p : Int → Bool) (l : List Int) : lng p l ≤ l.length := lngR_le p _ l

theorem lng_eq (p : Int → Bool) {l : List Int} (h : l.length ≠ 0) : lng p l = if p ((fst5 l).1 : Int) = true then (fst5 l).2 + lng p (l.drop (fst5 l).2) else 0 := by
 have hw := fst5_w h
 have e := lngR_eq p (l.length - 1 + 1) l (by omega)
 rw [← e, lngR, if_neg h, lngR_eq p _ _ (by rw [List.length_drop]; omega)]

theorem lng_nil (p : Int → Bool) {l : List Int} (h : l.length = 0) : lng p l = 0 := by unfold lng; rw [h]; rfl

theorem long_loop {f : Int → Option ((Bool × Unit) × Unit)} {p : Int → Bool} (hf : ∀ c, f c = some ((p c, ()), ())) {F : (List Int × (List Int × Int) × Unit) × Unit → Option (((List Int × (List Int × Int) × Unit) × Unit) ⊕ ((Int × Unit) × Unit))}
  (hF : ∀ s q, F ((s, q, ()), ()) = match nextS q with
   | .inl _ => some (.inr (((s.length : Int), ()), ()))
   | .inr y => (f y.1).bind fun r => bif !r.1.1 then some (.inr ((q.2, ()), ())) else some (.inl ((s, (q.1, y.2), ()), ()))) {s : List Int} (hs : bytesL s) : loopR F ((s, (s, 0), ()), ()) = some (((lng p s : Int), ()), ()) := by
 have main : ∀ (k n : Nat), s.length - n ≤ k → n ≤ s.length → loopR F ((s, (s, (n : Int)), ()), ()) = some ((((n + lng p (s.drop n) : Nat) : Int), ()), ()) := by
  intro k
  induction k with
  | zero =>
   intro n h1 h2
   obtain rfl : n = s.length := by omega
   refine loopR_out ?_
   rw [hF, next_end, lng_nil p (by rw [List.length_drop]; omega), Nat.add_zero]
  | succ k ih =>
   intro n h1 h2
   by_cases he : n = s.length
   ·subst he
    refine loopR_out ?_
    rw [hF, next_end, lng_nil p (by rw [List.length_drop]; omega), Nat.add_zero]
   ·have h0 : (s.drop n).length ≠ 0 := by rw [List.length_drop]; omega
    have hw := fst5_w h0
    have hdl : (s.drop n).length = s.length - n := List.length_drop
    rw [lng_eq p h0]
    by_cases hp : p ((fst5 (s.drop n)).1 : Int) = true
    ·rw [if_pos hp]
     refine loopR_on (y := ((s, (s, ((n + (fst5 (s.drop n)).2 : Nat) : Int)), ()), ())) ?_ ?_
     ·rw [hF, next_at hs (by omega)]
      dsimp only
      rw [hf, Option.bind_some]
      dsimp only
      rw [hp, Bool.not_true, cond_false]
     ·rw [ih _ (by omega) (by omega), List.drop_drop]
      congr 4
      omega
    ·have hp' : p ((fst5 (s.drop n)).1 : Int) = false := by simpa using hp
     rw [if_neg hp, Nat.add_zero]
     refine loopR_out ?_
     rw [hF, next_at hs (by omega)]
     dsimp only
     rw [hf, Option.bind_some]
     dsimp only
     rw [hp', Bool.not_false, cond_true]
 have := main s.length 0 (by omega) (by omega)
 rw [Nat.zero_add, List.drop_zero] at this
 exact this

def dgt (c : Int) : Bool := letB c || digB c || decide (c = 39)

theorem inner_ok (c : Int) : lex_inner c = some ((okC c, ()), ()) := by
 unfold lex_inner okC
 rw [Letter_ok, Option.bind_some]
 cases letB c <;> simp only [Digit_ok, gtrue, gfalse, Bool.not_true, Bool.not_false, Option.bind_some, cond_true, cond_false, Bool.true_or, Bool.false_or]
 cases digB c <;> simp only [gtrue, gfalse, Bool.not_true, Bool.not_false, Option.bind_some, cond_true, cond_false, Bool.true_or, Bool.false_or]
 cases decide (c = 45) <;> simp only [gtrue, gfalse, Bool.not_true, Bool.not_false, Option.bind_some, cond_true, cond_false, Bool.true_or, Bool.false_or]

theorem one1_ok (c : Int) : lex_one_1 c = some ((dgt c, ()), ()) := by
 unfold lex_one_1 dgt
 rw [Letter_ok, Option.bind_some]
 cases letB c <;> simp only [Digit_ok, gtrue, gfalse, Bool.not_true, Bool.not_false, Option.bind_some, cond_true, cond_false, Bool.true_or, Bool.false_or]
 cases digB c <;> simp only [gtrue, gfalse, Bool.not_true, Bool.not_false, Option.bind_some, cond_true, cond_false, Bool.true_or, Bool.false_or]

theorem long_inner {s : List Int} (hs : bytesL s) : lex_long_8cc s = some (((lng okC s : Int), ()), ()) :=
 long_loop inner_ok (fun _ _ => rfl) hs

theorem long_dgt {s : List Int} (hs : bytesL s) : lex_long_b62 s = some (((lng dgt s : Int), ()), ()) :=
 long_loop one1_ok (fun _ _ => rfl) hs

theorem cutPrefix0x (s : List Int) : strings_CutPrefix s [48, 120] = some (((bif decide (s.take 2 = [48, 120]) then s.drop 2 else s), decide (s.take 2 = [48, 120]), ()), ()) := by
 unfold strings_CutPrefix internal_stringslite_CutPrefix internal_stringslite_HasPrefix
 have hl2 : (([48, 120] : List Int).length : Int) = ((2 : Nat) : Int) := rfl
 rw [hl2]
 by_cases h : 2 ≤ s.length
 ·simp only [decide_eq_true (show (s.length : Int) ≥ ((2 : Nat) : Int) by omega), gtrue, Option.bind_some, subL_take h, cond_true]
  cases decide (s.take 2 = [48, 120]) with
  | false => rfl
  | true =>
   simp only [Bool.not_true, cond_false, subL_drop h, Option.bind_some, cond_true]
 ·have hne : decide (s.take 2 = [48, 120]) = false := by
   refine decide_eq_false fun e => h ?_
   have := congrArg List.length e
   rw [List.length_take] at this
   simp only [List.length_cons, List.length_nil] at this
   omega
  simp only [decide_eq_false (show ¬ (s.length : Int) ≥ ((2 : Nat) : Int) by omega), gfalse, Option.bind_some, hne, cond_false, Bool.not_false, cond_true]

def numR (w : Nat) (c : Int) (a : Int) : Tok × Int × Unit :=
 if c = 4 ∨ c = 3 then ((2, [], 0, vZ, a, ()), 4, ()) else if c = 0 ∧ w < 9223372036854775808 then ((2, [], (w : Int), vZ, a, ()), 0, ()) else ((2, [], 0, vZ, a, ()), 7, ())

theorem bitLen63 {w : Nat} : (bitLen w : Int) > 63 ↔ 9223372036854775808 ≤ w := by
 unfold bitLen
 by_cases h : w = 0
 ·subst h; simp
 ·rw [if_neg h]
  have := @Nat.log2_lt w 63 h
  constructor
  ·intro hh
   rcases Nat.lt_or_ge w (2 ^ 63) with h1 | h1
   ·have := this.2 h1; omega
   ·exact h1
  ·intro hh
   rcases Nat.lt_or_ge w.log2 63 with h1 | h1
   ·have := this.1 h1
    have e : (2 : Nat) ^ 63 = 9223372036854775808 := rfl
    omega
   ·omega

theorem numbers {s : List Int} (hs : s.length ≤ 100000) (a : Int) : ∃ t e, lex_number s a = some ((t, e, ()), ()) ∧ ref06_Number s a = some ((t, e, ()), ()) ∧
  ((pos 39 s < s.length ∧ ∃ v c, vec_Parse s = some ((v, c, ()), ()) ∧ (t, e, ()) = (((3, [], 0, v, a, ()), c, ()) : Tok × Int × Unit)) ∨ (¬ pos 39 s < s.length ∧ ∃ w c, w < 340282366920938463463374607431768211456 ∧ word_Parse (if s.take 2 = [48, 120] then s.drop 2 else s) (if s.take 2 = [48, 120] then 16 else 10) = some ((wp w, c, ()), ()) ∧ (t, e, ()) = numR w c a)) := by
 have hup : ∀ n, n ≤ pos 39 s → (∀ i, i < n → (hi : i < s.length) → s[i] ≠ 39) := fun n hn i hi hil => by
  have := List.not_of_lt_findIdx (p := isB 39) (xs := s) (i := i) (by unfold pos at hn; omega)
  unfold isB at this
  simpa using this
 by_cases hq : pos 39 s < s.length
 ·obtain ⟨v, c, h1, h2⟩ := vparses hs
  refine ⟨(3, [], 0, v, a, ()), c, ?_, ?_, .inl ⟨hq, v, c, h1, rfl⟩⟩
  ·unfold lex_number
   rw [contains1, Option.bind_some, decide_eq_true hq, cond_true, h1]
   rfl
  ·unfold ref06_Number
   refine loop_up (f := fun (z : ((List Int) × Int × Unit) × ((Int × (List Int) × Int × (Int × Int × Int × Unit) × Int × Unit) × (Int × (List Int) × Int × (Int × Int × Int × Unit) × Int × Unit) × Unit)) => ref06_Number_s0 z.1.1 z.1.2.1 z.2.1 z.2.2.1) (fun i => ((s, (i : Int), ()), (0, [], 0, (0, 0, 0, ()), 0, ()), (2, [], 0, (0, 0, 0, ()), a, ()), ())) (pos 39 s) (fun i hi => ?_) ?_ 0 (by omega)
   ·dsimp only
    unfold ref06_Number_s0
    rw [dlt (by omega), cond_true, rdI_nat (by omega), Option.bind_some, decide_eq_false (hup _ (Nat.le_refl _) i hi (by omega)), cond_false, wi64 (by omega)]
   ·dsimp only
    unfold ref06_Number_s0
    have h39 : s[pos 39 s] = 39 := by
     exact of_decide_eq_true (List.findIdx_getElem (p := isB 39) (xs := s) (w := hq))
    rw [dlt hq, cond_true, rdI_nat hq, Option.bind_some, h39, decide_eq_true rfl, cond_true, h2]
    rfl
 ·have hpe : pos 39 s = s.length := by have := pos_le 39 s; omega

  have both : ∀ (l : List Int) (b : Int), l.length < 1000000000 → ∃ w c, w < 340282366920938463463374607431768211456 ∧ word_Parse l b = some ((wp w, c, ()), ()) ∧ ref01_Parse l b = some ((rowB (BitVec.ofNat 128 w), c, ()), ()) := fun l b hl => by
   obtain ⟨w, c, k1, k2, k3, _⟩ := parses (l := l) (b := b) hl
   exact ⟨w, c, k1, k2, k3⟩
  have lexT : ∀ (w : Nat) (c : Int), w < 340282366920938463463374607431768211456 → (guardR (!decide (c = 4)) (some ()) () fun _ =>
    guardR (!decide (c = 4)) (some (decide (c = 3))) false fun v_6 =>
    bif (bif decide (c = 4) then true else v_6) then
     some ((((2, [], 0, (0, 0, 0, ()), a, ()) : Tok), (4 : Int), ()), ())
    else
    guardR (!(!decide (c = 0))) (some ()) () fun _ =>
    guardR (!(!decide (c = 0))) (some (wp w).1) 0 fun v_9 =>
    guardR (!(!decide (c = 0))) (some (decide (v_9 > 0))) false fun v_10 =>
    guardR (!(bif (!decide (c = 0)) then true else v_10)) (some ()) () fun _ =>
    guardR (!(bif (!decide (c = 0)) then true else v_10)) (some (wp w).2.1) 0 fun v_12 =>
    guardR (!(bif (!decide (c = 0)) then true else v_10)) (some (decide (v_12 > 9223372036854775807))) false fun v_13 =>
    bif (bif (bif (!decide (c = 0)) then true else v_10) then true else v_13) then
     some (((2, [], 0, (0, 0, 0, ()), a, ()), 7, ()), ())
    else
    some (((2, [], (IntKind.i64.wrap (wp w).2.1), (0, 0, 0, ()), a, ()), 0, ()), ())) = some (numR w c a, ()) := by
   intro w c hw
   unfold numR
   have e1 : (wp w).1 = ((w / 18446744073709551616 : Nat) : Int) := rfl
   have e2 : (wp w).2.1 = ((w % 18446744073709551616 : Nat) : Int) := rfl
   rw [e1, e2]
   by_cases h4 : c = 4
   ·subst h4; rfl
   by_cases h3 : c = 3
   ·subst h3; rfl
   rw [if_neg (by omega)]
   simp only [decide_eq_false h4, decide_eq_false h3, Bool.not_false, gtrue, Option.bind_some, cond_false]
   by_cases h0 : c = 0
   ·subst h0
    simp only [decide_true, Bool.not_true, Bool.not_false, gtrue, Option.bind_some, cond_false]
    by_cases hh : w < 18446744073709551616
    ·rw [Nat.div_eq_of_lt hh, Nat.mod_eq_of_lt hh]
     simp only [show decide (((0 : Nat) : Int) > 0) = false from rfl, Bool.not_false, gtrue, Option.bind_some, cond_false]
     by_cases hh2 : w < 9223372036854775808
     ·rw [if_pos ⟨trivial, hh2⟩, decide_eq_false (by omega), cond_false, wrap_i64 (by omega) (by omega)]
      rfl
     ·rw [if_neg (by omega), decide_eq_true (by omega), cond_true]
      rfl
    ·rw [if_neg (by omega), decide_eq_true (show ((w / 18446744073709551616 : Nat) : Int) > 0 by omega)]
     rfl
   ·rw [if_neg (by omega), decide_eq_false h0]
    rfl
  have refT : ∀ (w : Nat) (c : Int), w < 340282366920938463463374607431768211456 → (guardR (!decide (c = 4)) (some ()) () fun _ =>
    guardR (!decide (c = 4)) (some (decide (c = 3))) false fun v_15 =>
    bif (bif decide (c = 4) then true else v_15) then
     some ((((2, [], 0, (0, 0, 0, ()), a, ()) : Tok), (4 : Int), ()), ())
    else
    guardR (!(!decide (c = 0))) (some (rowB (BitVec.ofNat 128 w))) (List.replicate 128 false) fun v_18 =>
    guardR (!(!decide (c = 0))) (ref01_Len v_18) ((0, ()), ()) fun r_19 =>
    guardR (!(!decide (c = 0))) (some (decide (r_19.1.1 > 63))) false fun v_20 =>
    bif (bif (!decide (c = 0)) then true else v_20) then
     some (((2, [], 0, (0, 0, 0, ()), a, ()), 7, ()), ())
    else
    (ref01_Halves (rowB (BitVec.ofNat 128 w))).bind fun r_22 =>
    some (((2, [], (IntKind.i64.wrap r_22.1.2.1), (0, 0, 0, ()), a, ()), 0, ()), ())) = some (numR w c a, ()) := by
   intro w c hw
   unfold numR
   by_cases h4 : c = 4
   ·subst h4; rfl
   by_cases h3 : c = 3
   ·subst h3; rfl
   rw [if_neg (by omega)]
   simp only [decide_eq_false h4, decide_eq_false h3, Bool.not_false, gtrue, Option.bind_some, cond_false]
   by_cases h0 : c = 0
   ·subst h0
    simp only [decide_true, Bool.not_true, Bool.not_false, gtrue, Option.bind_some, cond_false, ref01_Len_ok, BitVec.toNat_ofNat, Nat.mod_eq_of_lt (show w < 2 ^ 128 from hw), halves_wp hw]
    by_cases hh2 : w < 9223372036854775808
    ·rw [if_pos ⟨trivial, hh2⟩, decide_eq_false (fun q => by have := bitLen63.1 q; omega), cond_false]
     have e2 : (wp w).2.1 = ((w % 18446744073709551616 : Nat) : Int) := rfl
     rw [e2, Nat.mod_eq_of_lt (by omega), wrap_i64 (by omega) (by omega)]
     rfl
    ·rw [if_neg (by omega), decide_eq_true (bitLen63.2 (by omega)), cond_true]
     rfl
   ·rw [if_neg (by omega), decide_eq_false h0]
    simp only [Bool.not_false, Bool.not_true, gfalse, cond_true]
    rfl
  have fin : ∀ (l : List Int) (b : Int), l.length < 1000000000 → (if s.take 2 = [48, 120] then s.drop 2 else s) = l → (if s.take 2 = [48, 120] then (16 : Int) else 10) = b → ∃ t e, lex_number s a = some ((t, e, ()), ()) ∧ ref06_Number s a = some ((t, e, ()), ()) ∧ ∃ w c, w < 340282366920938463463374607431768211456 ∧ word_Parse l b = some ((wp w, c, ()), ()) ∧ (t, e, ()) = numR w c a := by
   intro l b hl e1 e2
   obtain ⟨w, c, k1, k2, k3⟩ := both l b hl
   refine ⟨(numR w c a).1, (numR w c a).2.1, ?_, ?_, w, c, k1, k2, rfl⟩
   ·unfold lex_number
    rw [contains1, Option.bind_some, decide_eq_false hq, cond_false, cutPrefix0x, Option.bind_some]
    by_cases h : s.take 2 = [48, 120]
    ·rw [if_pos h] at e1 e2
     subst e1 e2
     rw [decide_eq_true h]
     simp only [cond_true]
     rw [k2, Option.bind_some]
     exact lexT w c k1
    ·rw [if_neg h] at e1 e2
     subst e1 e2
     rw [decide_eq_false h]
     simp only [cond_false]
     rw [k2, Option.bind_some]
     exact lexT w c k1
   ·unfold ref06_Number
    refine loop_up (f := fun (z : ((List Int) × Int × Unit) × ((Int × (List Int) × Int × (Int × Int × Int × Unit) × Int × Unit) × (Int × (List Int) × Int × (Int × Int × Int × Unit) × Int × Unit) × Unit)) => ref06_Number_s0 z.1.1 z.1.2.1 z.2.1 z.2.2.1) (fun i => ((s, (i : Int), ()), (0, [], 0, (0, 0, 0, ()), 0, ()), (2, [], 0, (0, 0, 0, ()), a, ()), ())) s.length (fun i hi => ?_) ?_ 0 (by omega)
    ·dsimp only
     unfold ref06_Number_s0
     rw [dlt hi, cond_true, rdI_nat hi, Option.bind_some, decide_eq_false (hup _ (Nat.le_refl _) i (by omega) hi), cond_false, wi64 (by omega)]
    ·dsimp only
     unfold ref06_Number_s0
     rw [dge, cond_false]
     dsimp only
     have els : s.take 2 ≠ [48, 120] → ((ref01_Parse s 10).bind fun r_24 =>
       guardR (!decide (r_24.1.2.1 = 4)) (some ()) () fun _ =>
       guardR (!decide (r_24.1.2.1 = 4)) (some (decide (r_24.1.2.1 = 3))) false fun v_26 =>
       bif (bif decide (r_24.1.2.1 = 4) then true else v_26) then
        some ((((2, [], 0, (0, 0, 0, ()), a, ()) : Tok), (4 : Int), ()), ())
       else
       guardR (!(!decide (r_24.1.2.1 = 0))) (some r_24.1.1) (List.replicate 128 false) fun v_29 =>
       guardR (!(!decide (r_24.1.2.1 = 0))) (ref01_Len v_29) ((0, ()), ()) fun r_30 =>
       guardR (!(!decide (r_24.1.2.1 = 0))) (some (decide (r_30.1.1 > 63))) false fun v_31 =>
       bif (bif (!decide (r_24.1.2.1 = 0)) then true else v_31) then
        some (((2, [], 0, (0, 0, 0, ()), a, ()), 7, ()), ())
       else
       (ref01_Halves r_24.1.1).bind fun r_33 =>
       some (((2, [], (IntKind.i64.wrap r_33.1.2.1), (0, 0, 0, ()), a, ()), 0, ()), ())) = some (numR w c a, ()) := by
      intro h
      rw [if_neg h] at e1 e2
      subst e1 e2
      rw [k3, Option.bind_some]
      exact refT w c k1
     by_cases h2 : 2 ≤ s.length
     ·have hs2 : subL s 0 2 = some (s.take 2) := subL_take (s := s) (i := 2) h2
      rw [decide_eq_true (show (s.length : Int) ≥ 2 by omega)]
      simp only [gtrue, Option.bind_some, hs2, cond_true]
      by_cases h : s.take 2 = [48, 120]
      ·rw [if_pos h] at e1 e2
       subst e1 e2
       rw [decide_eq_true h]
       have hsd : subL s 2 (s.length : Int) = some (s.drop 2) := subL_drop (s := s) (i := 2) h2
       simp only [cond_true]
       rw [hsd, Option.bind_some, k3, Option.bind_some]
       exact congrArg (Option.map Sum.inr) (refT w c k1)
      ·rw [decide_eq_false h, cond_false]
       exact congrArg (Option.map Sum.inr) (els h)
     ·have h : s.take 2 ≠ [48, 120] := fun e => h2 (by
       have := congrArg List.length e
       rw [List.length_take] at this
       simp only [List.length_cons, List.length_nil] at this
       omega)
      rw [decide_eq_false (show ¬ (s.length : Int) ≥ 2 by omega)]
      simp only [gfalse, cond_false]
      exact congrArg (Option.map Sum.inr) (els h)
  obtain ⟨t, e, h1, h2, h3⟩ := fin _ _ (by split <;> (try rw [List.length_drop]) <;> omega) rfl rfl
  exact ⟨t, e, h1, h2, .inr ⟨hq, h3⟩⟩

end Go.L

namespace Go.L
open Go Go.Pv
set_option maxRecDepth 100000

noncomputable def numT (s : List Int) (a : Int) : Tok × Int := match lex_number s a with
 | some ((t, e, _), _) => (t, e)
 | none => (tokZ, 0)

theorem numT_ok {s : List Int} (hs : s.length ≤ 100000) (a : Int) : lex_number s a = some (((numT s a).1, (numT s a).2, ()), ()) ∧ ref06_Number s a = some (((numT s a).1, (numT s a).2, ()), ()) := by
 obtain ⟨t, e, h1, h2, _⟩ := numbers hs a
 unfold numT
 rw [h1, h2]
 exact ⟨rfl, rfl⟩

noncomputable def oneT (s : List Int) (a : Int) : Tok × Nat × Int :=
 if isMark ((fst5 s).1 : Int) = true then ((0, s.take 1, 0, vZ, a, ()), 1, 0)
 else if letB ((fst5 s).1 : Int) = true then
  (if mayS (s.take (lng okC s)) = true then ((1, s.take (lng okC s), 0, vZ, a, ()), lng okC s, 0) else (tokZ, lng okC s, 2))
 else if digB ((fst5 s).1 : Int) = true then ((numT (s.take (lng dgt s)) a).1, lng dgt s, (numT (s.take (lng dgt s)) a).2)
 else (tokZ, 0, 4)

theorem lex_one_ok {s : List Int} (hs : bytesL s) (h0 : s.length ≠ 0) (hn : s.length ≤ 100000) (a : Int) : lex_one s a = some (((oneT s a).1, ((oneT s a).2.1 : Int), (oneT s a).2.2, ()), ()) := by
 have hw := fst5_w h0
 have ht : bytesL (s.take (fst5 s).2) := hs.take _
 have htl : (s.take (fst5 s).2).length = (fst5 s).2 := by rw [List.length_take]; omega
 have hft := fst5_take h0
 have hmx := fst5_max s
 unfold lex_one oneT
 rw [clip_ok hs h0 hn, Option.bind_some]
 dsimp only
 rw [runes_one ht (by omega) (by rw [hft, htl]), Option.bind_some, hft]
 generalize hc : ((fst5 s).1 : Int) = c at hmx
 have hc0 : 0 ≤ c := by omega
 dsimp only
 rw [show Option.map (fun _ => (0 : Int)) (ckI 0 ([c] : List Int).length) = some 0 from rfl, Option.bind_some, show rdI [c] 0 = some c from rfl, Option.bind_some, mark_ok hc0 hmx, Option.bind_some]
 dsimp only
 have hl1 := lng_le okC s
 have hl2 := lng_le dgt s
 cases hm : isMark c with
 | true =>
  rw [cond_true, if_pos rfl]
  have : subL s 0 1 = some (s.take 1) := subL_take (s := s) (i := 1) (by omega)
  rw [this]
  rfl
 | false =>
  rw [cond_false, if_neg (by simp), Letter_ok, Option.bind_some]
  dsimp only
  cases hL : letB c with
  | true =>
   rw [cond_true, if_pos rfl, long_inner hs, Option.bind_some]
   dsimp only
   rw [subL_take hl1, Option.bind_some, may_name (hs.take _) (by rw [List.length_take]; omega), Option.bind_some]
   dsimp only
   cases hM : mayS (s.take (lng okC s)) with
   | true => rfl
   | false => rfl
  | false =>
   rw [cond_false, if_neg (by simp), Digit_ok, Option.bind_some]
   dsimp only
   cases hD : digB c with
   | true =>
    rw [cond_true, if_pos rfl, long_dgt hs, Option.bind_some]
    dsimp only
    rw [subL_take hl2, Option.bind_some, (numT_ok (by rw [List.length_take]; omega) a).1]
    rfl
   | false => rfl

theorem one_pos {s : List Int} (h0 : s.length ≠ 0) (a : Int) (he : (oneT s a).2.2 = 0) : 1 ≤ (oneT s a).2.1 ∧ (oneT s a).2.1 ≤ s.length := by
 have hw := fst5_w h0
 have hl1 := lng_le okC s
 have hl2 := lng_le dgt s
 unfold oneT at he ⊢
 split
 ·exact ⟨Nat.le_refl _, by show 1 ≤ s.length; omega⟩
 ·rename_i hm
  rw [if_neg hm] at he
  split
  ·rename_i hL
   rw [if_pos hL] at he
   have hp : 1 ≤ lng okC s := by
    rw [lng_eq okC h0, if_pos (by unfold okC; rw [hL]; rfl)]; omega
   split
   ·exact ⟨hp, hl1⟩
   ·exact ⟨hp, hl1⟩
  ·rename_i hL
   rw [if_neg hL] at he
   split
   ·rename_i hD
    have hp : 1 ≤ lng dgt s := by
     rw [lng_eq dgt h0, if_pos (by unfold dgt; rw [hD]; simp)]; omega
    exact ⟨hp, hl2⟩
   ·rename_i hD
    rw [if_neg hD] at he
    exact absurd he (by decide)

noncomputable def scanF : Nat → List Int → Nat → List Tok → List Tok ⊕ (Int × Nat)
 | 0, _, _, acc => .inl acc
 | k + 1, l, a, acc => if l.length = 0 then .inl acc else
   if (oneT l (a : Int)).2.2 = 0 then
    scanF k ((l.drop (oneT l (a : Int)).2.1).drop (skipC false (l.drop (oneT l (a : Int)).2.1))) (a + (oneT l (a : Int)).2.1 + skipC false (l.drop (oneT l (a : Int)).2.1)) (acc ++ [(oneT l (a : Int)).1])
   else .inr ((oneT l (a : Int)).2.2, a)

noncomputable def scanT (s : List Int) : List Tok ⊕ (Int × Nat) := scanF s.length (s.drop (skipC false s)) (skipC false s) []

theorem room64 {α : Type} {xs ys : List α} (h : xs.length + ys.length ≤ 1000000) : roomI 64 xs ys = some (xs ++ ys) := by
 unfold roomI
 rw [if_pos (by omega)]

abbrev Err := (Option (Int × Int × Unit)) ⊕ Unit
def outL : List Tok ⊕ (Int × Nat) → ((List Tok × Err × Unit) × Unit)
 | .inl l => ((l, .inr (), ()), ())
 | .inr (e, p) => (([], .inl (some (e, (p : Int), ())), ()), ())
theorem lex_scan_ok {s : List Int} (hs : bytesL s) (hn : s.length ≤ 16384) : lex_Scan s = some (outL (scanT s)) := by
 unfold lex_Scan scanT
 have hsk := skipC_le false s
 rw [decide_eq_false (by omega), cond_false, lex_skip_ok hs (by omega), Option.bind_some]
 have main : ∀ (k a : Nat) (acc : List Tok), s.length - a ≤ k → a ≤ s.length → acc.length ≤ a →
   loopR (fun (z : ((List Int) × (List Tok) × Int × Unit) × (Unit)) => lex_Scan_s0 z.1.1 z.1.2.1 z.1.2.2.1) ((s, acc, (a : Int), ()), ()) = some (outL (scanF k (s.drop a) a acc)) := by
  intro k
  induction k with
  | zero =>
   intro a acc h1 h2 _
   obtain rfl : a = s.length := by omega
   refine loopR_out ?_
   dsimp only
   unfold lex_Scan_s0
   rw [dge, cond_false]
   rfl
  | succ k ih =>
   intro a acc h1 h2 h3
   unfold scanF
   by_cases he : a = s.length
   ·subst he
    rw [if_pos (by rw [List.length_drop]; omega)]
    refine loopR_out ?_
    dsimp only
    unfold lex_Scan_s0
    rw [dge, cond_false]
    rfl
   ·have hdl : (s.drop a).length = s.length - a := List.length_drop
    have h0 : (s.drop a).length ≠ 0 := by omega
    rw [if_neg h0]
    have hone := lex_one_ok (hs.drop a) h0 (by omega) (a : Int)
    by_cases hz : (oneT (s.drop a) (a : Int)).2.2 = 0
    ·rw [if_pos hz]
     obtain ⟨p1, p2⟩ := one_pos h0 (a : Int) hz
     generalize (oneT (s.drop a) (a : Int)).2.1 = n at *
     have hdd : (s.drop a).drop n = s.drop (a + n) := List.drop_drop
     have hsk2 := skipC_le false (s.drop (a + n))
     have hdl2 : (s.drop (a + n)).length = s.length - (a + n) := List.length_drop
     rw [hdd, List.drop_drop]
     generalize hj : skipC false (s.drop (a + n)) = j at *
     refine loopR_on (y := ((s, acc ++ [(oneT (s.drop a) (a : Int)).1], ((a + n + j : Nat) : Int), ()), ())) ?_ (ih (a + n + j) _ (by omega) (by omega) (by rw [List.length_append]; simp only [List.length_cons, List.length_nil]; omega))
     dsimp only
     unfold lex_Scan_s0
     rw [dlt (by omega), cond_true, subL_drop (by omega), Option.bind_some, hone, Option.bind_some]
     dsimp only
     rw [hz, decide_eq_true rfl, Bool.not_true, cond_false, room64 (by simp only [List.length_cons, List.length_nil]; omega), Option.bind_some]
     have hw1 : IntKind.i64.wrap ((a : Int) + (n : Int)) = ((a + n : Nat) : Int) := by rw [wrap_i64 (by omega) (by omega)]; omega
     rw [hw1, subL_drop (by omega), Option.bind_some, lex_skip_ok (hs.drop _) (by omega), Option.bind_some, hj]
     have hw2 : IntKind.i64.wrap (((a + n : Nat) : Int) + (j : Int)) = ((a + n + j : Nat) : Int) := by rw [wrap_i64 (by omega) (by omega)]; omega
     dsimp only
     rw [hw2]
    ·rw [if_neg hz]
     refine loopR_out ?_
     dsimp only
     unfold lex_Scan_s0
     rw [dlt (by omega), cond_true, subL_drop (by omega), Option.bind_some, hone, Option.bind_some]
     dsimp only
     rw [decide_eq_false hz, Bool.not_false, cond_true]
     rfl
 exact main s.length (skipC false s) [] (by omega) hsk (Nat.zero_le _)

end Go.L

namespace Go.L
open Go Go.Pv
set_option maxRecDepth 100000

theorem mod_succ (x i : Nat) : x % 2 ^ (i + 1) = x % 2 ^ i + (bif x.testBit i then 2 ^ i else 0) := by
 have h2 : x.testBit i = decide (x / 2 ^ i % 2 = 1) := Nat.testBit_eq_decide_div_mod_eq
 rw [h2, Nat.pow_succ, Nat.mod_mul]
 by_cases h : x / 2 ^ i % 2 = 1
 ·rw [decide_eq_true h, h, cond_true, Nat.mul_one]
 ·rw [decide_eq_false h, show x / 2 ^ i % 2 = 0 by omega, cond_false, Nat.mul_zero]

theorem two_s0 {op : List Int} {W x y : Nat} (hW : W ≤ 128) {v : Int × Int × Int × Unit} {r : ((Int × Int × Int × Unit) × Int × Unit) × Unit}
  (h : ref02_Two_s0 op (lrow W x.testBit) (lrow W y.testBit) (decide (x % 2 ^ W < y % 2 ^ W)) (decide (x % 2 ^ W = y % 2 ^ W)) (W : Int) v = some (.inr r)) :
  loopR (fun (z : ((List Int) × (List Bool) × (List Bool) × Bool × Bool × Int × Unit) × ((Int × Int × Int × Unit) × Unit)) => ref02_Two_s0 z.1.1 z.1.2.1 z.1.2.2.1 z.1.2.2.2.1 z.1.2.2.2.2.1 z.1.2.2.2.2.2.1 z.2.1) ((op, lrow W x.testBit, lrow W y.testBit, false, true, 0, ()), v, ()) = some r := by
 have key := loop_up (f := fun (z : ((List Int) × (List Bool) × (List Bool) × Bool × Bool × Int × Unit) × ((Int × Int × Int × Unit) × Unit)) => ref02_Two_s0 z.1.1 z.1.2.1 z.1.2.2.1 z.1.2.2.2.1 z.1.2.2.2.2.1 z.1.2.2.2.2.2.1 z.2.1) (fun i => ((op, lrow W x.testBit, lrow W y.testBit, decide (x % 2 ^ i < y % 2 ^ i), decide (x % 2 ^ i = y % 2 ^ i), (i : Int), ()), v, ())) W (r := r) ?_ h 0 (by omega)
 ·rw [Nat.pow_zero, Nat.mod_one, Nat.mod_one] at key
  exact key
 ·intro i hi
  dsimp only
  unfold ref02_Two_s0
  rw [lrow_len, lrow_len, decide_eq_true (show (i : Int) < (W : Int) by omega), cond_true, ck_nat hi, lrow_rd _ hi, Option.bind_some, ck_nat hi, lrow_rd _ hi, Option.bind_some, mod_succ x i, mod_succ y i, ck_nat hi, lrow_rd _ hi, Option.bind_some, wi64 (by omega)]
  have hx := Nat.mod_lt x (Nat.two_pow_pos i)
  have hy := Nat.mod_lt y (Nat.two_pow_pos i)
  generalize x % 2 ^ i = p at hx ⊢
  generalize y % 2 ^ i = q at hy ⊢
  generalize 2 ^ i = m at hx hy ⊢
  cases x.testBit i <;> cases y.testBit i
  ·rfl
  ·simp only [decide_eq_false (show ¬ false = true by decide), Bool.not_false, cond_true, cond_false]
   rw [decide_eq_true (show p + 0 < q + m by omega), decide_eq_false (show ¬ p + 0 = q + m by omega)]
  ·simp only [decide_eq_false (show ¬ true = false by decide), Bool.not_false, cond_true, cond_false]
   rw [decide_eq_false (show ¬ p + m < q + 0 by omega), decide_eq_false (show ¬ p + m = q + 0 by omega)]
  ·simp only [decide_true, Bool.not_true, cond_true, cond_false]
   rw [show decide (p + m < q + m) = decide (p < q) from decide_eq_decide.2 (by omega), show decide (p + m = q + m) = decide (p = q) from decide_eq_decide.2 (by omega)]

theorem of_one (b : Bool) : ref02_Of [b] = some ((vw 1 (bif b then 1 else 0), ()), ()) := by
 have h := ref02_Of_ok (n := 1) (X := bif b then 1 else 0) (by omega)
 have e : lrow 1 (bif b then 1 else 0 : Nat).testBit = [b] := by cases b <;> rfl
 rw [e] at h
 rw [h]
 cases b <;> rfl

theorem truth_ok (b : Bool) : vec_Truth b = some ((vw 1 (bif b then 1 else 0), ()), ()) := by cases b <;> rfl

def both (w u : Int) (x y : Nat) (r : (Int × Int × Int × Unit) × Int × Unit) : (Int × Int × Int × Unit) × Int × Unit :=
 bif may w x && may u y then (bif decide (w = u) then r else ((0, 0, 0, ()), 9, ())) else ((0, 0, 0, ()), 1, ())

theorem two_and_ok {w u : Int} {x y : Nat} (hx : x < 340282366920938463463374607431768211456) (hy : y < 340282366920938463463374607431768211456) : vec_two_d65 (vw w x) (vw u y) = some ((both w u x y (vw w (x &&& y), 0, ())), ()) := by
 have hpv : ((vw w x).1, (vw w x).2.1, (vw w x).2.2.1, ()) = vw w x := rfl
 have hpu : ((vw u y).1, (vw u y).2.1, (vw u y).2.2.1, ()) = vw u y := rfl
 unfold vec_two_d65 both
 rw [hpv, hpu, vec_May_ok hx, Option.bind_some]
 dsimp only
 cases hm : may w x
 ·simp only [Bool.not_false, Bool.not_true, gsome, gfalse, cond_true, cond_false, Bool.false_and]
 ·simp only [Bool.not_true, Bool.not_false, gsome, gtrue, cond_true, cond_false, Bool.true_and]
  rw [vec_May_ok hy, Option.bind_some]
  dsimp only
  cases hm2 : may u y
  ·rfl
  ·simp only [Bool.not_true, cond_false, cond_true]
   rw [show (vw w x).1 = w from rfl, show (vw u y).1 = u from rfl]
   by_cases h : w = u
   ·subst h
    obtain ⟨h1, h2, h3⟩ := may_of hm
    have hpx : ((wp x).1, (wp x).2.1, ()) = wp x := rfl
    have hpy : ((wp y).1, (wp y).2.1, ()) = wp y := rfl
    rw [decide_eq_true rfl, Bool.not_true, cond_false, cond_true, vec_Word_ok, Option.bind_some, vec_Word_ok, Option.bind_some]
    dsimp only
    have hl : x &&& y < 2 ^ w.toNat := Nat.and_lt_two_pow x (may_lt hm2)
    rw [word_And_ok hx hy, Option.bind_some]
    dsimp only
    rw [vec_Cut_ok h1 h2 (Nat.and_lt_two_pow (n := 128) x hy), Option.bind_some, Nat.mod_eq_of_lt hl]
   ·rw [decide_eq_false h]
    rfl

theorem vec_Less_ok {w u : Int} {x y : Nat} (hx : x < 340282366920938463463374607431768211456) (hy : y < 340282366920938463463374607431768211456) : vec_Less (vw w x) (vw u y) = some ((both w u x y (vw 1 (bif decide (x < y) then 1 else 0), 0, ())), ()) := by
 have hpv : ((vw w x).1, (vw w x).2.1, (vw w x).2.2.1, ()) = vw w x := rfl
 have hpu : ((vw u y).1, (vw u y).2.1, (vw u y).2.2.1, ()) = vw u y := rfl
 have hpx : ((wp x).1, (wp x).2.1, ()) = wp x := rfl
 have hpy : ((wp y).1, (wp y).2.1, ()) = wp y := rfl
 unfold vec_Less vec_told_44b
 rw [hpv, hpu, two_and_ok hx hy, Option.bind_some]
 have hc : decide (cmp x y < 0) = decide (x < y) := decide_eq_decide.2 (by unfold cmp; split <;> (try split) <;> omega)
 unfold both
 cases may w x
 ·rfl
 ·cases may u y
  ·rfl
  ·by_cases h : w = u
   ·subst h
    simp only [Bool.and_self, cond_true, decide_true, Bool.not_true, cond_false, vec_Word_ok, Option.bind_some, hpx, hpy, word_Cmp_ok hx hy, vec_Less_1, hc, truth_ok]
   ·simp only [decide_eq_false h]
    rfl

theorem ref02_less_ok {w u : Int} {x y : Nat} (hx : x < 340282366920938463463374607431768211456) (hy : y < 340282366920938463463374607431768211456) : ref02_Two [108, 101, 115, 115] (vw w x) (vw u y) = some ((both w u x y (vw 1 (bif decide (x < y) then 1 else 0), 0, ())), ()) := by
 have hpv : ((vw w x).1, (vw w x).2.1, (vw w x).2.2.1, ()) = vw w x := rfl
 have hpu : ((vw u y).1, (vw u y).2.1, (vw u y).2.2.1, ()) = vw u y := rfl
 unfold ref02_Two both
 rw [hpv, hpu, ref02_May_ok hx, Option.bind_some]
 dsimp only
 cases hm : may w x
 ·simp only [Bool.not_false, Bool.not_true, gsome, gfalse, cond_true, cond_false, Bool.false_and]
 ·simp only [Bool.not_true, Bool.not_false, gsome, gtrue, cond_true, cond_false, Bool.true_and]
  rw [ref02_May_ok hy, Option.bind_some]
  dsimp only
  cases hm2 : may u y
  ·rfl
  ·simp only [Bool.not_true, cond_false, cond_true]
   rw [show (vw w x).1 = w from rfl, show (vw u y).1 = u from rfl]
   by_cases h : w = u
   ·subst h
    obtain ⟨h1, h2, h3⟩ := may_of hm
    obtain ⟨W, rfl⟩ : ∃ W : Nat, w = W := ⟨w.toNat, by omega⟩
    have hxl := may_lt hm
    have hyl := may_lt hm2
    rw [Int.toNat_natCast] at hxl hyl
    rw [decide_eq_true rfl, Bool.not_true, cond_false, cond_true, ref02_Bits_ok hx, Option.bind_some, ref02_Bits_ok hy, Option.bind_some]
    dsimp only
    rw [show (min (W : Int) 128).toNat = W by omega]
    refine two_s0 (by omega) ?_
    unfold ref02_Two_s0
    rw [lrow_len, decide_eq_false (show ¬ (W : Int) < (W : Int) by omega), cond_false, show decide (([108, 101, 115, 115] : List Int) = [101, 113]) = false by decide, show decide (([108, 101, 115, 115] : List Int) = [108, 101, 115, 115]) = true by decide, cond_false, cond_true, of_one, Nat.mod_eq_of_lt hxl, Nat.mod_eq_of_lt hyl]
    rfl
   ·rw [decide_eq_false h]
    rfl

theorem within {w1 w2 w3 : Int} {x y z : Nat} (hx : x < 340282366920938463463374607431768211456) (hy : y < 340282366920938463463374607431768211456) (hz : z < 340282366920938463463374607431768211456) : ∃ r, vec_Within (vw w1 x) (vw w2 y) (vw w3 z) = some ((r, ()), ()) ∧ ref02_Within (vw w1 x) (vw w2 y) (vw w3 z) = some ((r, ()), ()) := by
 have hpx : ((vw w1 x).1, (vw w1 x).2.1, (vw w1 x).2.2.1, ()) = vw w1 x := rfl
 have hpy : ((vw w2 y).1, (vw w2 y).2.1, (vw w2 y).2.2.1, ()) = vw w2 y := rfl
 have hpz : ((vw w3 z).1, (vw w3 z).2.1, (vw w3 z).2.2.1, ()) = vw w3 z := rfl
 unfold vec_Within ref02_Within
 rw [hpx, hpy, hpz, vec_Less_ok hx hy, vec_Less_ok hz hx, ref02_less_ok hx hy, ref02_less_ok hz hx]
 simp only [Option.bind_some, gsome]
 exact ⟨_, rfl, rfl⟩

end Go.L

namespace Go.L
open Go Go.Pv
set_option maxRecDepth 100000

def neg (op : List Int) : Bool := decide (op = [115, 117, 98]) || decide (op = [115, 117, 98, 115, 97, 116])

def c0 (op : List Int) : Nat := bif neg op then 1 else 0

end Go.L

namespace Go.L
open Go Go.Pv
set_option maxRecDepth 100000

abbrev S1 := ((List Int) × Int × (List Bool) × Int × (List Bool) × Bool × Int × Unit) × ((Int × Int × Int × Unit) × Unit)
noncomputable abbrev f1 : S1 → Option (S1 ⊕ (((Int × Int × Int × Unit) × Int × Unit) × (Unit))) := fun z => ref02_One_s0 z.1.1 z.1.2.1 z.1.2.2.1 z.1.2.2.2.1 z.1.2.2.2.2.1 z.1.2.2.2.2.2.1 z.1.2.2.2.2.2.2.1 z.2.1

section
variable {n : Int} {W x i : Nat} {out : List Bool} {c : Bool} {v : Int × Int × Int × Unit}

end

end Go.L

namespace Go.L
open Go Go.Pv
set_option maxRecDepth 100000

theorem lt128 {w : Int} {x : Nat} (h : may w x = true) : x < 340282366920938463463374607431768211456 := by
 obtain ⟨h1, h2, h3⟩ := may_of h
 refine Nat.lt_of_lt_of_le (may_lt h) ?_
 rw [show 340282366920938463463374607431768211456 = 2 ^ 128 from rfl]
 exact Nat.pow_le_pow_right (by omega) (by omega)

theorem chr_39 (d : Nat) : chr d ≠ 39 := by unfold chr; split <;> omega

theorem text_short {W : Nat} (h : W < 1000) : (text 10 W).length ≤ 3 := by
 unfold text
 rw [List.length_reverse, List.length_map, D_eq (by omega)]
 by_cases h1 : W / 10 = 0
 ·rw [if_pos h1]; simp
 ·rw [if_neg h1, D_eq (by omega)]
  by_cases h2 : W / 10 / 10 = 0
  ·rw [if_pos h2]; simp
  ·rw [if_neg h2, D_eq (by omega), if_pos (by omega)]; simp

theorem vec_Parse_text {W x : Nat} (hm : may (W : Int) x = true) : vec_Parse (text 10 W ++ [39] ++ text 16 x) = some ((vw (W : Int) x, 0, ()), ()) := by
 have hx := lt128 hm
 obtain ⟨h1, h2, h3⟩ := may_of hm
 have hl1 := text_len (b := 10) (w := W) (by omega) (by omega)
 have hl2 := text_len (b := 16) (w := x) (by omega) hx
 have hs3 := text_short (W := W) (by omega)
 have hfind : (List.range (text 10 W ++ [39] ++ text 16 x).length).find? (fun i => decide ((text 10 W ++ [39] ++ text 16 x).getD i 0 = 39)) = some (text 10 W).length := by
  refine List.find?_range_eq_some.2 ⟨?_, ?_, fun j hj => ?_⟩
  ·refine decide_eq_true ?_
   simp [List.getD, List.append_assoc]
  ·exact List.mem_range.2 (by simp only [List.length_append, List.length_cons, List.length_nil]; omega)
  ·have he : (text 10 W ++ [39] ++ text 16 x).getD j 0 = (text 10 W).getD j 0 := by
    rw [List.append_assoc]
    simp [List.getD, List.getElem?_append_left hj]
   have hmem : (text 10 W).getD j 0 ∈ text 10 W := by
    simp only [List.getD, List.getElem?_eq_getElem hj, Option.getD_some]
    exact List.getElem_mem hj
   obtain ⟨d, _, hd⟩ := text_dig (by omega) hmem
   rw [he, hd, decide_eq_false (chr_39 d)]
   rfl
 have e10 : word_Parse (text 10 W) 10 = some ((wp W, 0, ()), ()) := by
  have := word_Parse_ok (b := 10) (l := text 10 W) (by omega) (by omega) (text_ne (by omega)) (by omega)
  rw [read_text (by omega) (by omega) (by omega)] at this
  exact this
 have e16 : word_Parse (text 16 x) 16 = some ((wp x, 0, ()), ()) := by
  have := word_Parse_ok (b := 16) (l := text 16 x) (by omega) (by omega) (text_ne (by omega)) (by omega)
  rw [read_text (by omega) (by omega) hx] at this
  exact this
 have ht : (text 10 W ++ [39] ++ text 16 x).take (text 10 W).length = text 10 W := by
  rw [List.append_assoc, List.take_left]
 have hd : (text 10 W ++ [39] ++ text 16 x).drop ((text 10 W).length + 1) = text 16 x := by
  have : (text 10 W).length + 1 = (text 10 W ++ [39]).length := by simp
  rw [this, List.drop_left]
 unfold vec_Parse
 rw [cut_some (by simp only [List.length_append, List.length_cons, List.length_nil]; omega) hfind, ht, hd, Option.bind_some]
 simp only [Bool.not_true, Bool.not_false, gsome, cond_true, cond_false, decide_eq_false (show ¬ ((text 10 W).length : Int) > 3 by omega), e10, e16, Option.bind_some, decide_true, show decide ((0 : Int) = 4) = false by decide, show decide ((0 : Int) = 3) = false by decide]
 have hw : IntKind.i64.wrap (wp W).2.1 = (W : Int) := by
  show IntKind.i64.wrap ((W % 18446744073709551616 : Nat) : Int) = _
  rw [wrap_i64 (by omega) (by omega)]
  omega
 rw [hw, width_ok, Option.bind_some, decide_eq_true (show 1 ≤ (W : Int) ∧ (W : Int) ≤ 128 from ⟨h1, h2⟩), vec_New_ok h1 h2 hx, decide_eq_true h3]
 rfl

end Go.L

namespace Go.L
open Go Go.Pv
set_option maxRecDepth 100000

theorem scanF_err : ∀ (k : Nat) (l : List Int) (a : Nat) (acc : List Tok) (e : Int) (p : Nat), scanF k l a acc = .inr (e, p) → e ≠ 0 ∧ a ≤ p ∧ p < a + l.length
 | 0, _, _, _, _, _, h => by unfold scanF at h; cases h
 | k + 1, l, a, acc, e, p, h => by
  unfold scanF at h
  by_cases h0 : l.length = 0
  ·rw [if_pos h0] at h; cases h
  ·rw [if_neg h0] at h
   by_cases hz : (oneT l (a : Int)).2.2 = 0
   ·rw [if_pos hz] at h
    obtain ⟨p1, p2⟩ := one_pos h0 (a : Int) hz
    obtain ⟨k1, k2, k3⟩ := scanF_err k _ _ _ e p h
    refine ⟨k1, by omega, ?_⟩
    have hsk := skipC_le false (l.drop (oneT l (a : Int)).2.1)
    rw [List.length_drop] at hsk
    rw [List.length_drop, List.length_drop] at k3
    omega
   ·rw [if_neg hz] at h
    simp only [Sum.inr.injEq, Prod.mk.injEq] at h
    obtain ⟨rfl, rfl⟩ := h
    exact ⟨hz, Nat.le_refl _, by omega⟩

theorem scanT_err {s : List Int} {e : Int} {p : Nat} (h : scanT s = .inr (e, p)) : e ≠ 0 ∧ p < s.length := by
 unfold scanT at h
 obtain ⟨h1, h2, h3⟩ := scanF_err _ _ _ _ e p h
 have hsk := skipC_le false s
 rw [List.length_drop] at h3
 exact ⟨h1, by omega⟩

theorem scan_step {k : Nat} {l : List Int} {a : Nat} {acc : List Tok} {t : Tok} {n : Nat} (h0 : l.length ≠ 0) (ho : oneT l (a : Int) = (t, n, 0)) :
  scanF (k + 1) l a acc = scanF k ((l.drop n).drop (skipC false (l.drop n))) (a + n + skipC false (l.drop n)) (acc ++ [t]) := by
 conv => lhs; unfold scanF
 rw [if_neg h0, ho, if_pos rfl]

theorem one_mark {l : List Int} {a : Int} (h : isMark ((fst5 l).1 : Int) = true) : oneT l a = ((0, l.take 1, 0, vZ, a, ()), 1, 0) := by
 unfold oneT
 rw [if_pos h]

theorem one_word {l : List Int} {a : Int} {n : Nat} (h1 : isMark ((fst5 l).1 : Int) = false) (h2 : letB ((fst5 l).1 : Int) = true) (hn : lng okC l = n) (h3 : mayS (l.take n) = true) : oneT l a = ((1, l.take n, 0, vZ, a, ()), n, 0) := by
 unfold oneT
 rw [if_neg (by rw [h1]; simp), if_pos h2, hn, if_pos h3]

theorem one_num {l : List Int} {a : Int} {n : Nat} {t : Tok} {e : Int} (h1 : isMark ((fst5 l).1 : Int) = false) (h2 : letB ((fst5 l).1 : Int) = false) (h3 : digB ((fst5 l).1 : Int) = true) (hn : lng dgt l = n) (ht : numT (l.take n) a = (t, e)) : oneT l a = (t, n, e) := by
 unfold oneT
 rw [if_neg (by rw [h1]; simp), if_neg (by rw [h2]; simp), if_pos h3, hn, ht]

theorem num_row {s : List Int} (hs : s.length ≤ 100000) (hq : pos 39 s < s.length) {v : V4L} {c : Int} (h : vec_Parse s = some ((v, c, ()), ())) (a : Int) : numT s a = ((3, [], 0, v, a, ()), c) := by
 obtain ⟨t, e, h1, _, hd⟩ := numbers hs a
 unfold numT
 rw [h1]
 rcases hd with ⟨_, v', c', h2, h3⟩ | ⟨h2, _⟩
 ·rw [h] at h2
  simp only [Option.some.injEq, Prod.mk.injEq, and_true] at h2
  obtain ⟨rfl, rfl⟩ := h2
  simp only [Prod.mk.injEq, and_true] at h3
  obtain ⟨h4, h5⟩ := h3
  dsimp only
  rw [h5]
  exact congrArg (fun t => (t, c)) (by obtain ⟨a1, a2, a3, a4, a5, _⟩ := t; simp only [Prod.mk.injEq] at h4; obtain ⟨rfl, rfl, rfl, rfl, rfl, _⟩ := h4; rfl)
 ·exact absurd hq h2

theorem num_num {s : List Int} (hs : s.length ≤ 100000) (hq : ¬ pos 39 s < s.length) {w : Nat} {c : Int} (hw : w < 340282366920938463463374607431768211456) (h : word_Parse (if s.take 2 = [48, 120] then s.drop 2 else s) (if s.take 2 = [48, 120] then 16 else 10) = some ((wp w, c, ()), ())) (a : Int) : numT s a = ((numR w c a).1, (numR w c a).2.1) := by
 obtain ⟨t, e, h1, _, hd⟩ := numbers hs a
 unfold numT
 rw [h1]
 rcases hd with ⟨h2, _⟩ | ⟨_, w', c', _, h2, h3⟩
 ·exact absurd h2 hq
 ·rw [h] at h2
  simp only [Option.some.injEq, Prod.mk.injEq, and_true] at h2
  obtain ⟨h4, rfl⟩ := h2
  have h4 := wp_inj h4
  subst h4
  rw [← h3]

end Go.L
