/- The functions that the statements reach as plain Lean, and what they compute. -/
import Derived.Test.YtkpiocglghnnhaaDoorQ12

set_option linter.unusedSimpArgs false
set_option linter.unusedVariables false

namespace Go.L
open Go Go.Pv
set_option maxRecDepth 100000

abbrev Rw := List Int × Int × Int × Int × Int × Int × Int × Int × Nat

abbrev Rw.name (r : Rw) := r.1
abbrev Rw.takes (r : Rw) := r.2.1
abbrev Rw.puts (r : Rw) := r.2.2.1
abbrev Rw.many (r : Rw) := r.2.2.2.1
abbrev Rw.a0 (r : Rw) := r.2.2.2.2.1
abbrev Rw.a1 (r : Rw) := r.2.2.2.2.2.1
abbrev Rw.b0 (r : Rw) := r.2.2.2.2.2.2.1
abbrev Rw.b1 (r : Rw) := r.2.2.2.2.2.2.2.1
abbrev Rw.ty (r : Rw) := r.2.2.2.2.2.2.2.2
end Go.L

namespace Go.L
open Go Go.Pv
set_option maxRecDepth 100000

theorem cat_ok {x y : List Int} (h : x.length + y.length ≤ 1000000000) : catI x y = some (x ++ y) := by
 unfold catI
 rw [if_pos (by omega)]

end Go.L

namespace Go.L
open Go Go.Pv
set_option maxRecDepth 100000

theorem fstN_cut {a0 a1 a2 a3 b1 b2 b3 n m : Nat} (hn : 1 ≤ n) (hm : n ≤ m) (h1 : 1 < n → b1 = a1) (h2 : 2 < n → b2 = a2) (h3 : 3 < n → b3 = a3) (g1 : n = 1 → b1 < 128) (g2 : n = 2 → b2 < 128) (g3 : n = 3 → b3 < 128) : fstN a0 b1 b2 b3 m = fstN a0 a1 a2 a3 n := by
 unfold fstN
 by_cases c1 : a0 < 128
 ·rw [if_pos c1, if_pos c1]
 rw [if_neg c1, if_neg c1]
 by_cases c2 : 194 ≤ a0 ∧ a0 < 224 ∧ 2 ≤ n ∧ 128 ≤ a1 ∧ a1 < 192
 ·obtain rfl := h1 (by omega)
  rw [if_pos c2, if_pos (by omega)]
 rw [if_neg c2, if_neg (show ¬ (194 ≤ a0 ∧ a0 < 224 ∧ 2 ≤ m ∧ 128 ≤ b1 ∧ b1 < 192) from fun h => by
  have e1 : 1 < n := by omega
  have := h1 e1
  omega)]
 by_cases c3 : (224 ≤ a0 ∧ a0 < 240 ∧ 3 ≤ n ∧ 128 ≤ a1 ∧ a1 < 192 ∧ 128 ≤ a2 ∧ a2 < 192) ∧ 2048 ≤ 4096 * (a0 - 224) + 64 * (a1 - 128) + (a2 - 128) ∧ (4096 * (a0 - 224) + 64 * (a1 - 128) + (a2 - 128) < 55296 ∨ 57343 < 4096 * (a0 - 224) + 64 * (a1 - 128) + (a2 - 128))
 ·obtain rfl := h1 (by omega)
  obtain rfl := h2 (by omega)
  rw [if_pos c3, if_pos (by omega)]
 rw [if_neg c3, if_neg (show ¬ ((224 ≤ a0 ∧ a0 < 240 ∧ 3 ≤ m ∧ 128 ≤ b1 ∧ b1 < 192 ∧ 128 ≤ b2 ∧ b2 < 192) ∧ 2048 ≤ 4096 * (a0 - 224) + 64 * (b1 - 128) + (b2 - 128) ∧ (4096 * (a0 - 224) + 64 * (b1 - 128) + (b2 - 128) < 55296 ∨ 57343 < 4096 * (a0 - 224) + 64 * (b1 - 128) + (b2 - 128))) from fun h => by
  obtain ⟨⟨k1, k2, k3, k4, k5, k6, k7⟩, hr⟩ := h
  have e1 : 2 < n := by omega
  obtain rfl := h1 (by omega)
  obtain rfl := h2 (by omega)
  exact c3 ⟨⟨k1, k2, by omega, k4, k5, k6, k7⟩, hr⟩)]
 by_cases c4 : (240 ≤ a0 ∧ a0 < 245 ∧ 4 ≤ n ∧ 128 ≤ a1 ∧ a1 < 192 ∧ 128 ≤ a2 ∧ a2 < 192 ∧ 128 ≤ a3 ∧ a3 < 192) ∧ 65536 ≤ 262144 * (a0 - 240) + 4096 * (a1 - 128) + 64 * (a2 - 128) + (a3 - 128) ∧ 262144 * (a0 - 240) + 4096 * (a1 - 128) + 64 * (a2 - 128) + (a3 - 128) ≤ 1114111
 ·obtain ⟨⟨k1, k2, k3, k⟩, hr⟩ := c4
  obtain rfl := h1 (by omega)
  obtain rfl := h2 (by omega)
  obtain rfl := h3 (by omega)
  rw [if_pos ⟨⟨k1, k2, (show 4 ≤ m by omega), k⟩, hr⟩, if_pos ⟨⟨k1, k2, k3, k⟩, hr⟩]
 rw [if_neg c4, if_neg (show ¬ ((240 ≤ a0 ∧ a0 < 245 ∧ 4 ≤ m ∧ 128 ≤ b1 ∧ b1 < 192 ∧ 128 ≤ b2 ∧ b2 < 192 ∧ 128 ≤ b3 ∧ b3 < 192) ∧ 65536 ≤ 262144 * (a0 - 240) + 4096 * (b1 - 128) + 64 * (b2 - 128) + (b3 - 128) ∧ 262144 * (a0 - 240) + 4096 * (b1 - 128) + 64 * (b2 - 128) + (b3 - 128) ≤ 1114111) from fun h => by
  obtain ⟨⟨k1, k2, k3, k⟩, hr⟩ := h
  have e1 : 3 < n := by omega
  obtain rfl := h1 (by omega)
  obtain rfl := h2 (by omega)
  obtain rfl := h3 (by omega)
  exact c4 ⟨⟨k1, k2, by omega, k⟩, hr⟩)]

theorem fst5_cut {y R : List Int} {c : Int} (h0 : y.length ≠ 0) (hc : c < 128) : fst5 (y ++ c :: R) = fst5 y := by
 have hg : ∀ i, i < y.length → (y ++ c :: R).getD i 0 = y.getD i 0 := fun i hi => by
  rw [List.getD_eq_getElem?_getD, List.getD_eq_getElem?_getD, List.getElem?_append_left hi]
 have hc' : (y ++ c :: R).getD y.length 0 = c := by
  rw [List.getD_eq_getElem?_getD, List.getElem?_append_right (Nat.le_refl _), Nat.sub_self]
  rfl
 unfold fst5
 rw [hg 0 (by omega)]
 have hlen : y.length ≤ (y ++ c :: R).length := by rw [List.length_append]; omega
 generalize hn : y.length = n at *
 refine fstN_cut (by omega) hlen (fun h => by rw [hg 1 h]) (fun h => by rw [hg 2 h]) (fun h => by rw [hg 3 h]) (fun h => ?_) (fun h => ?_) (fun h => ?_)
 all_goals subst h
 all_goals rw [hc']
 all_goals omega

theorem fst5_low {c : Int} {R : List Int} (h0 : 0 ≤ c) (hc : c < 128) : fst5 (c :: R) = (c.toNat, 1) := by
 unfold fst5 fstN
 rw [if_pos (by simp only [List.getD_cons_zero]; omega)]
 rfl

theorem lng_cut (p : Int → Bool) {c : Int} {R : List Int} (h0 : 0 ≤ c) (hc : c < 128) (hp : p c = false) : ∀ (n : Nat) (y : List Int), y.length ≤ n → lng p (y ++ c :: R) = lng p y := by
 intro n
 induction n with
 | zero =>
  intro y hy
  obtain rfl := List.length_eq_zero_iff.1 (show y.length = 0 by omega)
  rw [lng_nil p (l := []) rfl, List.nil_append, lng_eq p (by simp), fst5_low h0 hc, show ((c.toNat : Nat) : Int) = c by omega, hp, if_neg (by simp)]
 | succ n ih =>
  intro y hy
  by_cases hz : y.length = 0
  ·exact ih y (by omega)
  ·have hw := fst5_w hz
   rw [lng_eq p (by rw [List.length_append]; omega), lng_eq p hz, fst5_cut hz hc, List.drop_append_of_le_length hw.2.1, ih _ (by rw [List.length_drop]; omega)]

theorem one_cut {y R : List Int} {c : Int} (h0 : y.length ≠ 0) (hc0 : 0 ≤ c) (hc : c < 128) (h1 : okC c = false) (h2 : dgt c = false) (a : Int) : oneT (y ++ c :: R) a = oneT y a := by
 have l1 := lng_le okC y
 have l2 := lng_le dgt y
 unfold oneT
 rw [fst5_cut h0 hc, lng_cut okC hc0 hc h1 _ y (Nat.le_refl _), lng_cut dgt hc0 hc h2 _ y (Nat.le_refl _), List.take_append_of_le_length l1, List.take_append_of_le_length l2, List.take_append_of_le_length (by omega)]

theorem scanF_fuel : ∀ (n : Nat) (k j : Nat) (l : List Int) (a : Nat) (acc : List Tok), l.length ≤ n → l.length ≤ k → l.length ≤ j → scanF k l a acc = scanF j l a acc := by
 intro n
 induction n with
 | zero =>
  intro k j l a acc h _ _
  have h0 : l.length = 0 := by omega
  cases k <;> cases j <;> unfold scanF <;> simp only [h0, if_true]
 | succ n ih =>
  intro k j l a acc h hk hj
  by_cases h0 : l.length = 0
  ·exact ih k j l a acc (by omega) hk hj
  ·obtain ⟨k, rfl⟩ : ∃ m, k = m + 1 := ⟨k - 1, by omega⟩
   obtain ⟨j, rfl⟩ : ∃ m, j = m + 1 := ⟨j - 1, by omega⟩
   unfold scanF
   rw [if_neg h0, if_neg h0]
   by_cases hz : (oneT l (a : Int)).2.2 = 0
   ·obtain ⟨p1, p2⟩ := one_pos h0 (a : Int) hz
    rw [if_pos hz, if_pos hz]
    exact ih k j _ _ _ (by simp only [List.length_drop]; omega) (by simp only [List.length_drop]; omega) (by simp only [List.length_drop]; omega)
   ·rw [if_neg hz, if_neg hz]

noncomputable def scanA (s : List Int) (a : Nat) (acc : List Tok) : List Tok ⊕ (Int × Nat) := scanF s.length (s.drop (skipC false s)) (a + skipC false s) acc

theorem scanT_A (s : List Int) : scanT s = scanA s 0 [] := by
 unfold scanT scanA
 rw [Nat.zero_add]

theorem scanA_end {s : List Int} (h : skipC false s = s.length) (a : Nat) (acc : List Tok) : scanA s a acc = .inl acc := by
 unfold scanA
 rw [h, List.drop_length]
 cases s.length <;> unfold scanF
 ·rfl
 ·rfl

theorem scanA_on {s : List Int} {n : Nat} (hn : skipC false s = n) (h : n < s.length) (a : Nat) (acc : List Tok) (hz : (oneT (s.drop n) ((a + n : Nat) : Int)).2.2 = 0) :
  scanA s a acc = scanA (s.drop (n + (oneT (s.drop n) ((a + n : Nat) : Int)).2.1)) (a + (n + (oneT (s.drop n) ((a + n : Nat) : Int)).2.1)) (acc ++ [(oneT (s.drop n) ((a + n : Nat) : Int)).1]) := by
 have h0 : (s.drop n).length ≠ 0 := by rw [List.length_drop]; omega
 obtain ⟨p1, p2⟩ := one_pos h0 _ hz
 rw [List.length_drop] at p2
 obtain ⟨k, hk⟩ : ∃ k, s.length = k + 1 := ⟨s.length - 1, by omega⟩
 conv => lhs; unfold scanA; rw [hn, hk]; unfold scanF
 rw [if_neg h0, if_pos hz]
 generalize oneT (s.drop n) ((a + n : Nat) : Int) = o at *
 obtain ⟨t, w, e⟩ := o
 dsimp only at *
 unfold scanA
 have hdd : (s.drop n).drop w = s.drop (n + w) := List.drop_drop
 rw [hdd, ← Nat.add_assoc a n w]
 exact scanF_fuel _ _ _ _ _ _ (Nat.le_refl _) (by simp only [List.length_drop]; omega) (by simp only [List.length_drop]; omega)

theorem scanA_bad {s : List Int} {n : Nat} (hn : skipC false s = n) (h : n < s.length) (a : Nat) (acc : List Tok) (hz : (oneT (s.drop n) ((a + n : Nat) : Int)).2.2 ≠ 0) :
  scanA s a acc = .inr ((oneT (s.drop n) ((a + n : Nat) : Int)).2.2, a + n) := by
 have h0 : (s.drop n).length ≠ 0 := by rw [List.length_drop]; omega
 obtain ⟨k, hk⟩ : ∃ k, s.length = k + 1 := ⟨s.length - 1, by omega⟩
 unfold scanA
 rw [hn, hk]
 unfold scanF
 rw [if_neg h0, if_neg hz]

theorem skip_cut (R : List Int) : ∀ (x : List Int) (b : Bool), (skipC b x < x.length ∧ skipC b (x ++ 10 :: R) = skipC b x) ∨ (skipC b x = x.length ∧ skipC b (x ++ 10 :: R) = x.length + 1 + skipC false R)
 | [], b => by
  right
  refine ⟨skN b, ?_⟩
  cases b
  ·rw [List.nil_append, skF, if_neg (by decide), if_pos (by decide), List.length_nil]
   omega
  ·rw [List.nil_append, skT, if_pos rfl, List.length_nil]
   omega
 | c :: x, false => by
  rw [List.cons_append, skF, skF, List.length_cons]
  split
  ·rcases skip_cut R x true with ⟨h1, h2⟩ | ⟨h1, h2⟩
   ·exact .inl ⟨by omega, by omega⟩
   ·exact .inr ⟨by omega, by omega⟩
  ·split
   ·rcases skip_cut R x false with ⟨h1, h2⟩ | ⟨h1, h2⟩
    ·exact .inl ⟨by omega, by omega⟩
    ·exact .inr ⟨by omega, by omega⟩
   ·exact .inl ⟨by omega, rfl⟩
 | c :: x, true => by
  rw [List.cons_append, skT, skT, List.length_cons]
  split
  ·rcases skip_cut R x false with ⟨h1, h2⟩ | ⟨h1, h2⟩
   ·exact .inl ⟨by omega, by omega⟩
   ·exact .inr ⟨by omega, by omega⟩
  ·rcases skip_cut R x true with ⟨h1, h2⟩ | ⟨h1, h2⟩
   ·exact .inl ⟨by omega, by omega⟩
   ·exact .inr ⟨by omega, by omega⟩

theorem scanA_skip {s R : List Int} {m : Nat} (h : skipC false s = m + skipC false R) (hd : s.drop m = R) (hm : m ≤ s.length) (a : Nat) (acc : List Tok) : scanA s a acc = scanA R (a + m) acc := by
 unfold scanA
 have hR : R.length = s.length - m := by rw [← hd, List.length_drop]
 rw [h, ← List.drop_drop, hd, ← Nat.add_assoc]
 exact scanF_fuel _ _ _ _ _ _ (Nat.le_refl _) (by simp only [List.length_drop]; omega) (by simp only [List.length_drop]; omega)

theorem scan_cut (R : List Int) : ∀ (n : Nat) (x : List Int) (a : Nat) (acc : List Tok), x.length ≤ n →
  scanA (x ++ 10 :: R) a acc = match scanA x a acc with
   | .inl l => scanA R (a + (x.length + 1)) l
   | .inr e => .inr e := by
 intro n
 induction n with
 | zero =>
  intro x a acc h
  obtain rfl := List.length_eq_zero_iff.1 (show x.length = 0 by omega)
  rw [scanA_end (s := []) (skN false)]
  dsimp only
  have : skipC false ([] ++ 10 :: R) = 1 + skipC false R := by rw [List.nil_append, skF, if_neg (by decide), if_pos (by decide)]; omega
  exact scanA_skip this rfl (by simp) a acc
 | succ n ih =>
  intro x a acc h
  rcases skip_cut R x false with ⟨h1, h2⟩ | ⟨h1, h2⟩
  ·generalize hn : skipC false x = m at *
   have hd : (x ++ 10 :: R).drop m = x.drop m ++ 10 :: R := List.drop_append_of_le_length (by omega)
   have h0 : (x.drop m).length ≠ 0 := by rw [List.length_drop]; omega
   have ho := one_cut (y := x.drop m) (R := R) (c := 10) h0 (by decide) (by decide) (by decide) (by decide) ((a + m : Nat) : Int)
   rw [← hd] at ho
   have hlt : m < (x ++ 10 :: R).length := by rw [List.length_append]; omega
   by_cases hz : (oneT (x.drop m) ((a + m : Nat) : Int)).2.2 = 0
   ·obtain ⟨p1, p2⟩ := one_pos h0 _ hz
    rw [List.length_drop] at p2
    rw [scanA_on h2 hlt a acc (by rw [ho]; exact hz), ho, scanA_on hn h1 a acc hz]
    generalize oneT (x.drop m) ((a + m : Nat) : Int) = o at *
    obtain ⟨t, w, e⟩ := o
    dsimp only at *
    rw [List.drop_append_of_le_length (by omega), ih _ _ _ (by rw [List.length_drop]; omega), List.length_drop, show a + (m + w) + (x.length - (m + w) + 1) = a + (x.length + 1) by omega]
   ·rw [scanA_bad h2 hlt a acc (by rw [ho]; exact hz), ho, scanA_bad hn h1 a acc hz]
  ·rw [scanA_end h1]
   dsimp only
   refine scanA_skip h2 ?_ (by rw [List.length_append, List.length_cons]; omega) a acc
   rw [List.drop_append, List.drop_eq_nil_of_le (by omega), List.nil_append, show x.length + 1 - x.length = 1 by omega]
   rfl

def shT (q : Nat) (t : Tok) : Tok := (t.1, t.2.1, t.2.2.1, t.2.2.2.1, t.2.2.2.2.1 + (q : Int), ())

theorem numR_sh (w : Nat) (c a : Int) (q : Nat) : (numR w c (a + (q : Int))).1 = shT q (numR w c a).1 ∧ (numR w c (a + (q : Int))).2.1 = (numR w c a).2.1 := by
 unfold numR
 split
 ·exact ⟨rfl, rfl⟩
 split
 ·exact ⟨rfl, rfl⟩
 ·exact ⟨rfl, rfl⟩

theorem num_sh {s : List Int} (hs : s.length ≤ 100000) (a : Int) (q : Nat) : numT s (a + (q : Int)) = (shT q (numT s a).1, (numT s a).2) := by
 obtain ⟨t, e, h1, _, hd⟩ := numbers hs a
 obtain ⟨t', e', h1', _, hd'⟩ := numbers hs (a + (q : Int))
 unfold numT
 rw [h1, h1']
 dsimp only
 rcases hd with ⟨g1, v, c, h2, h3⟩ | ⟨g1, w, c, hw, h2, h3⟩
 ·rcases hd' with ⟨_, v', c', h2', h3'⟩ | ⟨g1', _⟩
  ·rw [h2] at h2'
   simp only [Option.some.injEq, Prod.mk.injEq, and_true] at h2'
   obtain ⟨rfl, rfl⟩ := h2'
   simp only [Prod.mk.injEq, and_true] at h3 h3'
   obtain ⟨h4, h5⟩ := h3
   obtain ⟨h4', h5'⟩ := h3'
   rw [h5, h5']
   refine congrArg (fun t => (t, c)) ?_
   obtain ⟨a1, a2, a3, a4, a5, _⟩ := t
   obtain ⟨b1, b2, b3, b4, b5, _⟩ := t'
   simp only [Prod.mk.injEq, and_true] at h4 h4'
   obtain ⟨rfl, rfl, rfl, rfl, rfl⟩ := h4
   obtain ⟨rfl, rfl, rfl, rfl, rfl⟩ := h4'
   rfl
  ·exact absurd g1 g1'
 ·rcases hd' with ⟨g1', _⟩ | ⟨_, w', c', hw', h2', h3'⟩
  ·exact absurd g1' g1
  ·rw [h2] at h2'
   simp only [Option.some.injEq, Prod.mk.injEq, and_true] at h2'
   obtain ⟨h4, rfl⟩ := h2'
   have h4 := wp_inj h4
   subst h4
   obtain ⟨r1, r2⟩ := numR_sh w c a q
   rw [← h3, ← h3'] at r1 r2
   dsimp only at r1 r2
   rw [r1, r2]

theorem one_sh {s : List Int} (hs : s.length ≤ 100000) (a : Int) (q : Nat) : (oneT s (a + (q : Int))).2 = (oneT s a).2 ∧ ((oneT s a).2.2 = 0 → (oneT s (a + (q : Int))).1 = shT q (oneT s a).1) := by
 unfold oneT
 split
 ·exact ⟨rfl, fun _ => rfl⟩
 split
 ·split
  ·exact ⟨rfl, fun _ => rfl⟩
  ·exact ⟨rfl, fun h => absurd h (by decide : (2 : Int) ≠ 0)⟩
 split
 ·rw [num_sh (by rw [List.length_take]; omega)]
  exact ⟨rfl, fun _ => rfl⟩
 ·exact ⟨rfl, fun h => absurd h (by decide : (4 : Int) ≠ 0)⟩

theorem scan_sh (q : Nat) (ys : List Tok) : ∀ (n : Nat) (s : List Int) (a : Nat) (acc : List Tok), s.length ≤ n → s.length ≤ 100000 →
  scanA s (a + q) (ys ++ acc.map (shT q)) = match scanA s a acc with
   | .inl l => .inl (ys ++ l.map (shT q))
   | .inr (e, p) => .inr (e, p + q) := by
 intro n
 induction n with
 | zero =>
  intro s a acc h _
  obtain rfl := List.length_eq_zero_iff.1 (show s.length = 0 by omega)
  rw [scanA_end (s := []) (skN false), scanA_end (s := []) (skN false)]
 | succ n ih =>
  intro s a acc h hs
  have hle := skipC_le false s
  rcases Nat.lt_or_ge (skipC false s) s.length with h1 | h1
  ·generalize hn : skipC false s = m at *
   have h0 : (s.drop m).length ≠ 0 := by rw [List.length_drop]; omega
   obtain ⟨o1, o2⟩ := one_sh (s := s.drop m) (by rw [List.length_drop]; omega) ((a + m : Nat) : Int) q
   have ec : ((a + m : Nat) : Int) + (q : Int) = ((a + q + m : Nat) : Int) := by omega
   rw [ec] at o1 o2
   by_cases hz : (oneT (s.drop m) ((a + m : Nat) : Int)).2.2 = 0
   ·obtain ⟨p1, p2⟩ := one_pos h0 _ hz
    rw [List.length_drop] at p2
    rw [scanA_on hn h1 (a + q) _ (by rw [o1]; exact hz), o1, o2 hz, scanA_on hn h1 a acc hz]
    generalize oneT (s.drop m) ((a + m : Nat) : Int) = o at *
    obtain ⟨t, w, e⟩ := o
    dsimp only at *
    have := ih (s.drop (m + w)) (a + (m + w)) (acc ++ [t]) (by rw [List.length_drop]; omega) (by rw [List.length_drop]; omega)
    rw [List.map_append, ← List.append_assoc, show a + (m + w) + q = a + q + (m + w) by omega] at this
    exact this
   ·rw [scanA_bad hn h1 (a + q) _ (by rw [o1]; exact hz), o1, scanA_bad hn h1 a acc hz]
    dsimp only
    rw [show a + q + m = a + m + q by omega]
  ·have e : skipC false s = s.length := by omega
   rw [scanA_end e, scanA_end e]

end Go.L
