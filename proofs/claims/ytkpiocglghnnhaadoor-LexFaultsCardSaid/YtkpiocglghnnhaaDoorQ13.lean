/- The functions that the statements reach as plain Lean, and what they compute. -/
import Derived.Test.YtkpiocglghnnhaaDoorQ12

set_option linter.unusedSimpArgs false
set_option linter.unusedVariables false

namespace Go.L
open Go Go.Pv
set_option maxRecDepth 100000

abbrev V4T := Int × Int × Int × Unit
abbrev Rw := List Int × Int × Int × Int × Int × Int × Int × Int × Nat

abbrev Rw.name (r : Rw) := r.1
abbrev Rw.takes (r : Rw) := r.2.1
abbrev Rw.puts (r : Rw) := r.2.2.1
abbrev Rw.many (r : Rw) := r.2.2.2.1
abbrev Rw.a0 (r : Rw) := r.2.2.2.2.1
abbrev Rw.a1 (r : Rw) := r.2.2.2.2.2.1
abbrev Rw.b0 (r : Rw) := r.2.2.2.2.2.2.1
abbrev Rw.b1 (r : Rw) := r.2.2.2.2.2.2.2.1
abbrev Rw.ty (r : Rw) := r.2.2.2.2.2.2.2.2
end Go.L

namespace Go.L
open Go Go.Pv
set_option maxRecDepth 100000

theorem vec_Text_bad {w : Int} {x : Nat} (hm : may w x = false) (hx : x < 340282366920938463463374607431768211456) : vec_Text (vw w x) = some (([], ()), ()) := by
 have hpv : ((vw w x).1, (vw w x).2.1, (vw w x).2.2.1, ()) = vw w x := rfl
 unfold vec_Text
 rw [hpv, vec_May_ok hx, Option.bind_some, hm]
 rfl

def vtx (w : Int) (x : Nat) : List Int := if may w x = true then text 10 w.toNat ++ [39] ++ text 16 x else []

theorem vtx_ok {w : Int} {x : Nat} (hx : x < 340282366920938463463374607431768211456) : vec_Text (vw w x) = some ((vtx w x, ()), ()) ∧ ref02_Text (vw w x) = some ((vtx w x, ()), ()) := by
 have hpv : ((vw w x).1, (vw w x).2.1, (vw w x).2.2.1, ()) = vw w x := rfl
 unfold vtx
 cases hm : may w x
 ·refine ⟨vec_Text_bad hm hx, ?_⟩
  unfold ref02_Text
  rw [hpv, ref02_May_ok hx, Option.bind_some, hm]
  rfl
 ·rw [if_pos rfl]
  refine ⟨vec_Text_ok hm hx, ?_⟩
  obtain ⟨h1, h2, h3⟩ := may_of hm
  obtain ⟨W, rfl⟩ : ∃ W : Nat, w = W := ⟨w.toNat, by omega⟩
  unfold ref02_Text
  have hl1 := text_len (b := 10) (w := W) (by omega) (by omega)
  have hl2 := text_len (b := 16) (w := x) (by omega) hx
  have hof : ref01_Of 0 (IntKind.u64.wrap (vw (W : Int) x).1) = some ((rowB (BitVec.ofNat 128 W), ()), ()) := by
   rw [show (vw (W : Int) x).1 = (W : Int) from rfl, u64_small (by omega)]
   have := of_wp (w := W) (by omega)
   rw [← wp_small (show W < 1000 by omega)] at this
   exact this
  have e10 : ref01_Text (rowB (BitVec.ofNat 128 W)) 10 = some ((text 10 W, ()), ()) := ref01_Text_ok (b := 10) (by omega) (by omega) (by omega)
  have e16 : ref01_Text (rowB (BitVec.ofNat 128 x)) 16 = some ((text 16 x, ()), ()) := ref01_Text_ok (b := 16) hx (by omega) (by omega)
  have hof2 : ref01_Of (vw (W : Int) x).2.1 (vw (W : Int) x).2.2.1 = some ((rowB (BitVec.ofNat 128 x), ()), ()) := of_wp hx
  rw [hpv, ref02_May_ok hx, Option.bind_some, hm, Bool.not_true, cond_false, hof, Option.bind_some]
  dsimp only
  rw [e10, Option.bind_some]
  dsimp only
  rw [show catI (text 10 W) [39] = some (text 10 W ++ [39]) by unfold catI; rw [if_pos (by simp only [List.length_cons, List.length_nil]; omega)], Option.bind_some, hof2, Option.bind_some]
  dsimp only
  rw [e16, Option.bind_some]
  dsimp only
  rw [show catI (text 10 W ++ [39]) (text 16 x) = some (text 10 W ++ [39] ++ text 16 x) by unfold catI; rw [if_pos (by simp only [List.length_append, List.length_cons, List.length_nil]; omega)], Option.bind_some, Int.toNat_natCast]

end Go.L

namespace Go.L
open Go Go.Pv
set_option maxRecDepth 100000

theorem wrap_nat64 (n : Int) : IntKind.u64.wrap n = (nat64 n : Int) := by
 rw [nat64_eq]
 simp only [IntKind.wrap, IntKind.signed, IntKind.bits]
 simp

theorem nat64_lt (n : Int) : nat64 n < 18446744073709551616 := by unfold nat64; omega

theorem wp_64 {n : Nat} (h : n < 18446744073709551616) : ((0, (n : Int), ()) : Int × Int × Unit) = wp n := by
 unfold wp
 rw [Nat.div_eq_of_lt h, Nat.mod_eq_of_lt h]
 rfl

theorem text_len' {n : Int} : (text 10 (nat64 n)).length ≤ 128 := text_len (by omega) (by have := nat64_lt n; omega)

theorem cat_ok {x y : List Int} (h : x.length + y.length ≤ 1000000000) : catI x y = some (x ++ y) := by
 unfold catI
 rw [if_pos (by omega)]

def vtxt (v : V4T) : List Int := vtx v.1 (v.2.1.toNat * 18446744073709551616 + v.2.2.1.toNat)

theorem vtxt_ok {v : V4T} (h : okV v) : vec_Text v = some ((vtxt v, ()), ()) ∧ ref02_Text v = some ((vtxt v, ()), ()) := by
 obtain ⟨h1, h2⟩ := okV_vw h
 unfold vtxt
 generalize v.2.1.toNat * 18446744073709551616 + v.2.2.1.toNat = x at h1 h2
 have := vtx_ok (w := v.1) h1
 rw [← h2] at this
 exact this

theorem room16 {α : Type} {xs ys : List α} (h : xs.length + ys.length ≤ 100000) : roomI 16 xs ys = some (xs ++ ys) := by
 unfold roomI
 rw [if_pos (by omega)]

end Go.L

namespace Go.L
open Go Go.Pv
set_option maxRecDepth 100000

def ttx (t : Tok) : List Int := if t.1 = 0 then t.2.1 else if t.1 = 1 then t.2.1 else if t.1 = 2 then (if t.2.2.1 < 0 then [] else text 10 (nat64 t.2.2.1)) else if t.1 = 3 then vtxt t.2.2.2.1 else []

theorem lexText_ok {t : Tok} (hv : okV t.2.2.2.1) : lex_Text t = some ((ttx t, ()), ()) ∧ ref06_Text t = some ((ttx t, ()), ()) := by
 obtain ⟨k, s, n, v, p, _⟩ := t
 dsimp only at hv
 unfold lex_Text ref06_Text ttx
 dsimp only
 by_cases h0 : k = 0
 ·rw [decide_eq_true h0, cond_true, cond_true, if_pos h0]
  exact ⟨rfl, rfl⟩
 rw [decide_eq_false h0, cond_false, cond_false, if_neg h0]
 by_cases h1 : k = 1
 ·rw [decide_eq_true h1, cond_true, cond_true, if_pos h1]
  exact ⟨rfl, rfl⟩
 rw [decide_eq_false h1, cond_false, cond_false, if_neg h1]
 by_cases h2 : k = 2
 ·rw [decide_eq_true h2, cond_true, cond_true, if_pos h2]
  unfold lex_digits
  by_cases hn : n < 0
  ·rw [decide_eq_true hn, cond_true, cond_true, if_pos hn]
   exact ⟨rfl, rfl⟩
  ·rw [decide_eq_false hn, cond_false, cond_false, if_neg hn, wrap_nat64]
   have tx : word_Text (0, (nat64 n : Int), ()) 10 = some ((text 10 (nat64 n), ()), ()) := by
    rw [wp_64 (nat64_lt n)]
    exact word_Text_ok (b := 10) (by have := nat64_lt n; omega) (by omega) (by omega)
   have ro : ref01_Of 0 (nat64 n : Int) = some ((rowB (BitVec.ofNat 128 (nat64 n)), ()), ()) := by
    have := of_wp (w := nat64 n) (by have := nat64_lt n; omega)
    rw [← wp_64 (nat64_lt n)] at this
    exact this
   have rt : ref01_Text (rowB (BitVec.ofNat 128 (nat64 n))) 10 = some ((text 10 (nat64 n), ()), ()) := ref01_Text_ok (b := 10) (by have := nat64_lt n; omega) (by omega) (by omega)
   rw [tx, ro]
   simp only [Option.bind_some, rt]
   exact ⟨trivial, trivial⟩
 rw [decide_eq_false h2, cond_false, cond_false, if_neg h2]
 by_cases h3 : k = 3
 ·rw [decide_eq_true h3, cond_true, cond_true, if_pos h3]
  obtain ⟨a, b⟩ := vtxt_ok hv
  rw [show (v.1, v.2.1, v.2.2.1, ()) = v from rfl, a, b]
  exact ⟨rfl, rfl⟩
 rw [decide_eq_false h3, cond_false, cond_false, if_neg h3]
 exact ⟨rfl, rfl⟩

def jtx (l : List Tok) : List Int := joinI (l.map ttx) [32]

theorem jtx_len : ∀ (l : List Tok) (m : Nat), (∀ t ∈ l, (ttx t).length ≤ m) → (jtx l).length ≤ l.length * (m + 1)
 | [], _, _ => by simp [jtx, joinI]
 | x :: l, m, h => by
  have hx := h x (by simp)
  have : (((l.map ttx).map ([32] ++ ·)).flatten).length ≤ l.length * (m + 1) := by
   clear hx
   induction l with
   | nil => simp
   | cons y l ih =>
    have hy := h y (by simp)
    have := ih (fun t ht => h t (by
     rcases List.mem_cons.1 ht with rfl | ht
     ·simp
     ·simp [ht]))
    simp only [List.map_cons, List.flatten_cons, List.length_append, List.length_cons, List.length_nil, Nat.add_mul] at this ⊢
    omega
  have e : (jtx (x :: l)).length = (ttx x).length + (((l.map ttx).map ([32] ++ ·)).flatten).length := by
   simp only [jtx, joinI, List.map_cons, List.length_append]
  rw [e]
  simp only [List.length_cons, Nat.add_mul]
  omega

theorem lexJoin_ok {l : List Tok} (hv : ∀ t ∈ l, okV t.2.2.2.1) (hl : l.length ≤ 10000) (hj : (jtx l).length ≤ 1000000) : lex_Join l = some ((jtx l, ()), ()) := by
 unfold lex_Join
 refine loop_up (fun i => (((l.take i).map ttx, l, (l.length : Int), (i : Int), ()), ())) l.length (fun i hi => ?_) ?_ 0 (by omega)
 ·dsimp only
  unfold lex_Join_s0
  rw [dlt hi, cond_true, rdI_nat hi, Option.bind_some, (lexText_ok (hv _ (List.getElem_mem hi))).1, Option.bind_some, room16 (by rw [List.length_map, List.length_take]; simp only [List.length_cons, List.length_nil]; omega), Option.bind_some, wi64 (by omega), List.take_succ_eq_append_getElem hi, List.map_append]
  rfl
 ·dsimp only
  unfold lex_Join_s0
  rw [dge, cond_false, List.take_length]
  have : strings_Join (l.map ttx) [32] = some ((jtx l, ()), ()) := by
   unfold strings_Join joinF
   rw [if_pos ⟨hj, by rw [List.length_map]; omega⟩]
   rfl
  rw [this]
  rfl

end Go.L

namespace Go.L
open Go Go.Pv
set_option maxRecDepth 100000

theorem fstN_cut {a0 a1 a2 a3 b1 b2 b3 n m : Nat} (hn : 1 ≤ n) (hm : n ≤ m) (h1 : 1 < n → b1 = a1) (h2 : 2 < n → b2 = a2) (h3 : 3 < n → b3 = a3) (g1 : n = 1 → b1 < 128) (g2 : n = 2 → b2 < 128) (g3 : n = 3 → b3 < 128) : fstN a0 b1 b2 b3 m = fstN a0 a1 a2 a3 n := by
 unfold fstN
 by_cases c1 : a0 < 128
 ·rw [if_pos c1, if_pos c1]
 rw [if_neg c1, if_neg c1]
 by_cases c2 : 194 ≤ a0 ∧ a0 < 224 ∧ 2 ≤ n ∧ 128 ≤ a1 ∧ a1 < 192
 ·obtain rfl := h1 (by omega)
  rw [if_pos c2, if_pos (by omega)]
 rw [if_neg c2, if_neg (show ¬ (194 ≤ a0 ∧ a0 < 224 ∧ 2 ≤ m ∧ 128 ≤ b1 ∧ b1 < 192) from fun h => by
  have e1 : 1 < n := by omega
  have := h1 e1
  omega)]
 by_cases c3 : (224 ≤ a0 ∧ a0 < 240 ∧ 3 ≤ n ∧ 128 ≤ a1 ∧ a1 < 192 ∧ 128 ≤ a2 ∧ a2 < 192) ∧ 2048 ≤ 4096 * (a0 - 224) + 64 * (a1 - 128) + (a2 - 128) ∧ (4096 * (a0 - 224) + 64 * (a1 - 128) + (a2 - 128) < 55296 ∨ 57343 < 4096 * (a0 - 224) + 64 * (a1 - 128) + (a2 - 128))
 ·obtain rfl := h1 (by omega)
  obtain rfl := h2 (by omega)
  rw [if_pos c3, if_pos (by omega)]
 rw [if_neg c3, if_neg (show ¬ ((224 ≤ a0 ∧ a0 < 240 ∧ 3 ≤ m ∧ 128 ≤ b1 ∧ b1 < 192 ∧ 128 ≤ b2 ∧ b2 < 192) ∧ 2048 ≤ 4096 * (a0 - 224) + 64 * (b1 - 128) + (b2 - 128) ∧ (4096 * (a0 - 224) + 64 * (b1 - 128) + (b2 - 128) < 55296 ∨ 57343 < 4096 * (a0 - 224) + 64 * (b1 - 128) + (b2 - 128))) from fun h => by
  obtain ⟨⟨k1, k2, k3, k4, k5, k6, k7⟩, hr⟩ := h
  have e1 : 2 < n := by omega
  obtain rfl := h1 (by omega)
  obtain rfl := h2 (by omega)
  exact c3 ⟨⟨k1, k2, by omega, k4, k5, k6, k7⟩, hr⟩)]
 by_cases c4 : (240 ≤ a0 ∧ a0 < 245 ∧ 4 ≤ n ∧ 128 ≤ a1 ∧ a1 < 192 ∧ 128 ≤ a2 ∧ a2 < 192 ∧ 128 ≤ a3 ∧ a3 < 192) ∧ 65536 ≤ 262144 * (a0 - 240) + 4096 * (a1 - 128) + 64 * (a2 - 128) + (a3 - 128) ∧ 262144 * (a0 - 240) + 4096 * (a1 - 128) + 64 * (a2 - 128) + (a3 - 128) ≤ 1114111
 ·obtain ⟨⟨k1, k2, k3, k⟩, hr⟩ := c4
  obtain rfl := h1 (by omega)
  obtain rfl := h2 (by omega)
  obtain rfl := h3 (by omega)
  rw [if_pos ⟨⟨k1, k2, (show 4 ≤ m by omega), k⟩, hr⟩, if_pos ⟨⟨k1, k2, k3, k⟩, hr⟩]
 rw [if_neg c4, if_neg (show ¬ ((240 ≤ a0 ∧ a0 < 245 ∧ 4 ≤ m ∧ 128 ≤ b1 ∧ b1 < 192 ∧ 128 ≤ b2 ∧ b2 < 192 ∧ 128 ≤ b3 ∧ b3 < 192) ∧ 65536 ≤ 262144 * (a0 - 240) + 4096 * (b1 - 128) + 64 * (b2 - 128) + (b3 - 128) ∧ 262144 * (a0 - 240) + 4096 * (b1 - 128) + 64 * (b2 - 128) + (b3 - 128) ≤ 1114111) from fun h => by
  obtain ⟨⟨k1, k2, k3, k⟩, hr⟩ := h
  have e1 : 3 < n := by omega
  obtain rfl := h1 (by omega)
  obtain rfl := h2 (by omega)
  obtain rfl := h3 (by omega)
  exact c4 ⟨⟨k1, k2, by omega, k⟩, hr⟩)]

theorem fst5_cut {y R : List Int} {c : Int} (h0 : y.length ≠ 0) (hc : c < 128) : fst5 (y ++ c :: R) = fst5 y := by
 have hg : ∀ i, i < y.length → (y ++ c :: R).getD i 0 = y.getD i 0 := fun i hi => by
  rw [List.getD_eq_getElem?_getD, List.getD_eq_getElem?_getD, List.getElem?_append_left hi]
 have hc' : (y ++ c :: R).getD y.length 0 = c := by
  rw [List.getD_eq_getElem?_getD, List.getElem?_append_right (Nat.le_refl _), Nat.sub_self]
  rfl
 unfold fst5
 rw [hg 0 (by omega)]
 have hlen : y.length ≤ (y ++ c :: R).length := by rw [List.length_append]; omega
 generalize hn : y.length = n at *
 refine fstN_cut (by omega) hlen (fun h => by rw [hg 1 h]) (fun h => by rw [hg 2 h]) (fun h => by rw [hg 3 h]) (fun h => ?_) (fun h => ?_) (fun h => ?_)
 all_goals subst h
 all_goals rw [hc']
 all_goals omega

theorem fst5_low {c : Int} {R : List Int} (h0 : 0 ≤ c) (hc : c < 128) : fst5 (c :: R) = (c.toNat, 1) := by
 unfold fst5 fstN
 rw [if_pos (by simp only [List.getD_cons_zero]; omega)]
 rfl

theorem lng_cut (p : Int → Bool) {c : Int} {R : List Int} (h0 : 0 ≤ c) (hc : c < 128) (hp : p c = false) : ∀ (n : Nat) (y : List Int), y.length ≤ n → lng p (y ++ c :: R) = lng p y := by
 intro n
 induction n with
 | zero =>
  intro y hy
  obtain rfl := List.length_eq_zero_iff.1 (show y.length = 0 by omega)
  rw [lng_nil p (l := []) rfl, List.nil_append, lng_eq p (by simp), fst5_low h0 hc, show ((c.toNat : Nat) : Int) = c by omega, hp, if_neg (by simp)]
 | succ n ih =>
  intro y hy
  by_cases hz : y.length = 0
  ·exact ih y (by omega)
  ·have hw := fst5_w hz
   rw [lng_eq p (by rw [List.length_append]; omega), lng_eq p hz, fst5_cut hz hc, List.drop_append_of_le_length hw.2.1, ih _ (by rw [List.length_drop]; omega)]

theorem one_cut {y R : List Int} {c : Int} (h0 : y.length ≠ 0) (hc0 : 0 ≤ c) (hc : c < 128) (h1 : okC c = false) (h2 : dgt c = false) (a : Int) : oneT (y ++ c :: R) a = oneT y a := by
 have l1 := lng_le okC y
 have l2 := lng_le dgt y
 unfold oneT
 rw [fst5_cut h0 hc, lng_cut okC hc0 hc h1 _ y (Nat.le_refl _), lng_cut dgt hc0 hc h2 _ y (Nat.le_refl _), List.take_append_of_le_length l1, List.take_append_of_le_length l2, List.take_append_of_le_length (by omega)]

theorem scanF_fuel : ∀ (n : Nat) (k j : Nat) (l : List Int) (a : Nat) (acc : List Tok), l.length ≤ n → l.length ≤ k → l.length ≤ j → scanF k l a acc = scanF j l a acc := by
 intro n
 induction n with
 | zero =>
  intro k j l a acc h _ _
  have h0 : l.length = 0 := by omega
  cases k <;> cases j <;> unfold scanF <;> simp only [h0, if_true]
 | succ n ih =>
  intro k j l a acc h hk hj
  by_cases h0 : l.length = 0
  ·exact ih k j l a acc (by omega) hk hj
  ·obtain ⟨k, rfl⟩ : ∃ m, k = m + 1 := ⟨k - 1, by omega⟩
   obtain ⟨j, rfl⟩ : ∃ m, j = m + 1 := ⟨j - 1, by omega⟩
   unfold scanF
   rw [if_neg h0, if_neg h0]
   by_cases hz : (oneT l (a : Int)).2.2 = 0
   ·obtain ⟨p1, p2⟩ := one_pos h0 (a : Int) hz
    rw [if_pos hz, if_pos hz]
    exact ih k j _ _ _ (by simp only [List.length_drop]; omega) (by simp only [List.length_drop]; omega) (by simp only [List.length_drop]; omega)
   ·rw [if_neg hz, if_neg hz]

noncomputable def scanA (s : List Int) (a : Nat) (acc : List Tok) : List Tok ⊕ (Int × Nat) := scanF s.length (s.drop (skipC false s)) (a + skipC false s) acc

theorem scanT_A (s : List Int) : scanT s = scanA s 0 [] := by
 unfold scanT scanA
 rw [Nat.zero_add]

theorem scanA_end {s : List Int} (h : skipC false s = s.length) (a : Nat) (acc : List Tok) : scanA s a acc = .inl acc := by
 unfold scanA
 rw [h, List.drop_length]
 cases s.length <;> unfold scanF
 ·rfl
 ·rfl

theorem scanA_on {s : List Int} {n : Nat} (hn : skipC false s = n) (h : n < s.length) (a : Nat) (acc : List Tok) (hz : (oneT (s.drop n) ((a + n : Nat) : Int)).2.2 = 0) :
  scanA s a acc = scanA (s.drop (n + (oneT (s.drop n) ((a + n : Nat) : Int)).2.1)) (a + (n + (oneT (s.drop n) ((a + n : Nat) : Int)).2.1)) (acc ++ [(oneT (s.drop n) ((a + n : Nat) : Int)).1]) := by
 have h0 : (s.drop n).length ≠ 0 := by rw [List.length_drop]; omega
 obtain ⟨p1, p2⟩ := one_pos h0 _ hz
 rw [List.length_drop] at p2
 obtain ⟨k, hk⟩ : ∃ k, s.length = k + 1 := ⟨s.length - 1, by omega⟩
 conv => lhs; unfold scanA; rw [hn, hk]; unfold scanF
 rw [if_neg h0, if_pos hz]
 generalize oneT (s.drop n) ((a + n : Nat) : Int) = o at *
 obtain ⟨t, w, e⟩ := o
 dsimp only at *
 unfold scanA
 have hdd : (s.drop n).drop w = s.drop (n + w) := List.drop_drop
 rw [hdd, ← Nat.add_assoc a n w]
 exact scanF_fuel _ _ _ _ _ _ (Nat.le_refl _) (by simp only [List.length_drop]; omega) (by simp only [List.length_drop]; omega)

theorem scanA_bad {s : List Int} {n : Nat} (hn : skipC false s = n) (h : n < s.length) (a : Nat) (acc : List Tok) (hz : (oneT (s.drop n) ((a + n : Nat) : Int)).2.2 ≠ 0) :
  scanA s a acc = .inr ((oneT (s.drop n) ((a + n : Nat) : Int)).2.2, a + n) := by
 have h0 : (s.drop n).length ≠ 0 := by rw [List.length_drop]; omega
 obtain ⟨k, hk⟩ : ∃ k, s.length = k + 1 := ⟨s.length - 1, by omega⟩
 unfold scanA
 rw [hn, hk]
 unfold scanF
 rw [if_neg h0, if_neg hz]

theorem scanA_skip {s R : List Int} {m : Nat} (h : skipC false s = m + skipC false R) (hd : s.drop m = R) (hm : m ≤ s.length) (a : Nat) (acc : List Tok) : scanA s a acc = scanA R (a + m) acc := by
 unfold scanA
 have hR : R.length = s.length - m := by rw [← hd, List.length_drop]
 rw [h, ← List.drop_drop, hd, ← Nat.add_assoc]
 exact scanF_fuel _ _ _ _ _ _ (Nat.le_refl _) (by simp only [List.length_drop]; omega) (by simp only [List.length_drop]; omega)

end Go.L

namespace Go.L
open Go Go.Pv
set_option maxRecDepth 100000

theorem fstN_pre {a0 a1 a2 a3 b1 b2 b3 n m : Nat} (hn : 1 ≤ n) (hm : (fstN a0 a1 a2 a3 n).2 ≤ m) (hmn : m ≤ n) (h1 : 1 < m → b1 = a1) (h2 : 2 < m → b2 = a2) (h3 : 3 < m → b3 = a3) : fstN a0 b1 b2 b3 m = fstN a0 a1 a2 a3 n := by
 unfold fstN at hm ⊢
 by_cases c1 : a0 < 128
 ·rw [if_pos c1, if_pos c1]
 rw [if_neg c1] at hm
 rw [if_neg c1, if_neg c1]
 by_cases c2 : 194 ≤ a0 ∧ a0 < 224 ∧ 2 ≤ n ∧ 128 ≤ a1 ∧ a1 < 192
 ·rw [if_pos c2] at hm
  have hm : 2 ≤ m := hm
  obtain rfl := h1 (by omega)
  rw [if_pos c2, if_pos (by omega)]
 rw [if_neg c2] at hm
 rw [if_neg c2, if_neg (show ¬ (194 ≤ a0 ∧ a0 < 224 ∧ 2 ≤ m ∧ 128 ≤ b1 ∧ b1 < 192) from fun h => by
  obtain rfl := h1 (by omega)
  omega)]
 by_cases c3 : (224 ≤ a0 ∧ a0 < 240 ∧ 3 ≤ n ∧ 128 ≤ a1 ∧ a1 < 192 ∧ 128 ≤ a2 ∧ a2 < 192) ∧ 2048 ≤ 4096 * (a0 - 224) + 64 * (a1 - 128) + (a2 - 128) ∧ (4096 * (a0 - 224) + 64 * (a1 - 128) + (a2 - 128) < 55296 ∨ 57343 < 4096 * (a0 - 224) + 64 * (a1 - 128) + (a2 - 128))
 ·rw [if_pos c3] at hm
  have hm : 3 ≤ m := hm
  obtain rfl := h1 (by omega)
  obtain rfl := h2 (by omega)
  rw [if_pos c3, if_pos ⟨⟨c3.1.1, c3.1.2.1, hm, c3.1.2.2.2⟩, c3.2⟩]
 rw [if_neg c3] at hm
 rw [if_neg c3, if_neg (show ¬ ((224 ≤ a0 ∧ a0 < 240 ∧ 3 ≤ m ∧ 128 ≤ b1 ∧ b1 < 192 ∧ 128 ≤ b2 ∧ b2 < 192) ∧ 2048 ≤ 4096 * (a0 - 224) + 64 * (b1 - 128) + (b2 - 128) ∧ (4096 * (a0 - 224) + 64 * (b1 - 128) + (b2 - 128) < 55296 ∨ 57343 < 4096 * (a0 - 224) + 64 * (b1 - 128) + (b2 - 128))) from fun h => by
  obtain ⟨⟨k1, k2, k3, k⟩, hr⟩ := h
  obtain rfl := h1 (by omega)
  obtain rfl := h2 (by omega)
  exact c3 ⟨⟨k1, k2, Nat.le_trans k3 hmn, k⟩, hr⟩)]
 by_cases c4 : (240 ≤ a0 ∧ a0 < 245 ∧ 4 ≤ n ∧ 128 ≤ a1 ∧ a1 < 192 ∧ 128 ≤ a2 ∧ a2 < 192 ∧ 128 ≤ a3 ∧ a3 < 192) ∧ 65536 ≤ 262144 * (a0 - 240) + 4096 * (a1 - 128) + 64 * (a2 - 128) + (a3 - 128) ∧ 262144 * (a0 - 240) + 4096 * (a1 - 128) + 64 * (a2 - 128) + (a3 - 128) ≤ 1114111
 ·rw [if_pos c4] at hm
  have hm : 4 ≤ m := hm
  obtain rfl := h1 (by omega)
  obtain rfl := h2 (by omega)
  obtain rfl := h3 (by omega)
  rw [if_pos c4, if_pos ⟨⟨c4.1.1, c4.1.2.1, hm, c4.1.2.2.2⟩, c4.2⟩]
 rw [if_neg c4, if_neg (show ¬ ((240 ≤ a0 ∧ a0 < 245 ∧ 4 ≤ m ∧ 128 ≤ b1 ∧ b1 < 192 ∧ 128 ≤ b2 ∧ b2 < 192 ∧ 128 ≤ b3 ∧ b3 < 192) ∧ 65536 ≤ 262144 * (a0 - 240) + 4096 * (b1 - 128) + 64 * (b2 - 128) + (b3 - 128) ∧ 262144 * (a0 - 240) + 4096 * (b1 - 128) + 64 * (b2 - 128) + (b3 - 128) ≤ 1114111) from fun h => by
  obtain ⟨⟨k1, k2, k3, k⟩, hr⟩ := h
  obtain rfl := h1 (by omega)
  obtain rfl := h2 (by omega)
  obtain rfl := h3 (by omega)
  exact c4 ⟨⟨k1, k2, Nat.le_trans k3 hmn, k⟩, hr⟩)]

theorem fst5_pre {l : List Int} {m : Nat} (h : l.length ≠ 0) (hw : (fst5 l).2 ≤ m) (hm : m ≤ l.length) : fst5 (l.take m) = fst5 l := by
 have hw1 := fst5_w h
 have hlen : (l.take m).length = m := by rw [List.length_take]; omega
 have hg : ∀ i, i < m → (l.take m).getD i 0 = l.getD i 0 := fun i hi => by
  rw [List.getD_eq_getElem?_getD, List.getD_eq_getElem?_getD, List.getElem?_take, if_pos hi]
 show fstN ((l.take m).getD 0 0).toNat ((l.take m).getD 1 0).toNat ((l.take m).getD 2 0).toNat ((l.take m).getD 3 0).toNat (l.take m).length = fst5 l
 rw [hlen, hg 0 (by omega)]
 exact fstN_pre (by omega) hw hm (fun h => by rw [hg 1 h]) (fun h => by rw [hg 2 h]) (fun h => by rw [hg 3 h])

theorem fst5_one {l : List Int} (h : (fst5 l).1 < 128) : (fst5 l).2 = 1 := by
 unfold fst5 at h ⊢
 generalize (l.getD 0 0).toNat = a0 at *
 generalize (l.getD 1 0).toNat = a1 at *
 generalize (l.getD 2 0).toNat = a2 at *
 generalize (l.getD 3 0).toNat = a3 at *
 unfold fstN at h ⊢
 split at h
 ·rw [if_pos (by assumption)]
 rename_i c1
 rw [if_neg c1]
 split at h
 ·rename_i c2
  have h : 64 * (a0 - 192) + (a1 - 128) < 128 := h
  omega
 rename_i c2
 rw [if_neg c2]
 split at h
 ·rename_i c3
  have h : 4096 * (a0 - 224) + 64 * (a1 - 128) + (a2 - 128) < 128 := h
  omega
 rename_i c3
 rw [if_neg c3]
 split at h
 ·rename_i c4
  have h : 262144 * (a0 - 240) + 4096 * (a1 - 128) + 64 * (a2 - 128) + (a3 - 128) < 128 := h
  omega
 rename_i c4
 rw [if_neg c4]

theorem lng_take (p : Int → Bool) : ∀ (n : Nat) (y : List Int), y.length ≤ n → lng p (y.take (lng p y)) = lng p y := by
 intro n
 induction n with
 | zero =>
  intro y hy
  rw [lng_nil p (show y.length = 0 by omega), lng_nil p (by simp)]
 | succ n ih =>
  intro y hy
  by_cases h0 : y.length = 0
  ·exact ih y (by omega)
  ·have hw := fst5_w h0
   have he := lng_eq p h0
   cases hp : p ((fst5 y).1 : Int) with
   | false =>
    rw [hp, if_neg (by simp)] at he
    rw [he, lng_nil p (by simp)]
   | true =>
    rw [hp, if_pos rfl] at he
    have hle := lng_le p y
    have hf := fst5_pre h0 (m := lng p y) (by omega) hle
    have hd : (y.take (lng p y)).drop (fst5 y).2 = (y.drop (fst5 y).2).take (lng p (y.drop (fst5 y).2)) := by
     rw [List.drop_take]
     congr 1
     omega
    have h0' : (y.take (lng p y)).length ≠ 0 := by rw [List.length_take]; omega
    rw [lng_eq p h0', hf, hp, if_pos rfl, hd, ih _ (by rw [List.length_drop]; omega)]
    exact he.symm

theorem lng_all (p : Int → Bool) : ∀ l : List Int, (∀ x ∈ l, 0 ≤ x ∧ x < 128 ∧ p x = true) → lng p l = l.length
 | [], _ => lng_nil p rfl
 | c :: l, h => by
  obtain ⟨h0, h1, h2⟩ := h c (by simp)
  rw [lng_eq p (by simp), fst5_low h0 h1, show ((c.toNat : Nat) : Int) = c by omega, h2, if_pos rfl, List.length_cons]
  show 1 + lng p l = _
  rw [lng_all p l (fun x hx => h x (by simp [hx]))]
  omega

theorem parsed_may {s : List Int} {v : V4L} (hs : s.length ≤ 100000) (h : vec_Parse s = some ((v, 0, ()), ())) : ∃ (W x : Nat), v = vw (W : Int) x ∧ may (W : Int) x = true := by
 unfold vec_Parse at h
 rw [cut1 39 (by omega), Option.bind_some] at h
 dsimp only at h
 have hsp := pos_le 39 s
 generalize pos 39 s = i at *
 obtain ⟨w1, c1, hw1, a1, _, _⟩ := parses (l := s.take i) (b := 10) (by rw [List.length_take]; omega)
 obtain ⟨w2, c2, hw2, a2, _, _⟩ := parses16 (l := s.drop (i + 1)) (by rw [List.length_drop]; omega)
 have hb : w1 % 18446744073709551616 < 18446744073709551616 := Nat.mod_lt _ (by omega)
 have hlo : (wp w1).2.1 = ((w1 % 18446744073709551616 : Nat) : Int) := rfl
 have no : ∀ {a : V4L} {c : Int}, c ≠ 0 → some (((a, c, ()), ()) : (V4L × Int × Unit) × Unit) = some ((v, 0, ()), ()) → False := fun hc h => by
  simp only [Option.some.injEq, Prod.mk.injEq, and_true] at h
  exact hc h.2
 rw [a1, a2] at h
 simp only [Option.bind_some, hlo] at h
 generalize w1 % 18446744073709551616 = m at hb h
 cases hq : decide (i < s.length) with
 | false =>
  rw [hq] at h
  simp only [Bool.not_false, Bool.not_true, gfalse, cond_true] at h
  exact (no (by decide) h).elim
 | true =>
  rw [hq] at h
  simp only [Bool.not_false, Bool.not_true, gtrue, Option.bind_some, cond_false] at h
  by_cases hl : ((s.take i).length : Int) > 3
  ·rw [decide_eq_true hl, cond_true] at h
   exact (no (by decide) h).elim
  rw [decide_eq_false hl, cond_false] at h
  by_cases e1 : c1 = 0
  ·by_cases e4 : c2 = 4
   ·subst e1 e4
    simp only [decide_true, Bool.not_true, Bool.not_false, gtrue, gfalse, Option.bind_some, cond_false, cond_true] at h
    exact (no (by decide) h).elim
   by_cases e3 : c2 = 3
   ·subst e1 e3
    simp only [decide_true, show decide ((3 : Int) = 4) = false from rfl, Bool.not_true, Bool.not_false, gtrue, gfalse, Option.bind_some, cond_false, cond_true] at h
    exact (no (by decide) h).elim
   subst e1
   simp only [decide_true, decide_eq_false e4, decide_eq_false e3, Bool.not_true, Bool.not_false, gtrue, gfalse, Option.bind_some, cond_false, cond_true, width_ok, wrap_width hb] at h
   by_cases hm : 1 ≤ m ∧ m ≤ 128
   ·rw [decide_eq_true hm] at h
    simp only [Bool.not_true, cond_false] at h
    by_cases e0 : c2 = 0
    ·subst e0
     have hwm : IntKind.i64.wrap (m : Int) = (m : Int) := wrap_i64 (by omega) (by omega)
     rw [hwm, vec_New_ok (by omega) (by omega) hw2] at h
     simp only [decide_true, Bool.not_true, cond_false, Option.bind_some] at h
     by_cases hl : (bitLen w2 : Int) ≤ (m : Int)
     ·rw [decide_eq_true hl, cond_true] at h
      simp only [Option.some.injEq, Prod.mk.injEq, and_true] at h
      exact ⟨m, w2, h.symm, decide_eq_true ⟨by omega, hl⟩⟩
     ·rw [decide_eq_false hl, cond_false] at h
      exact (no (by decide) h).elim
    ·rw [decide_eq_false e0] at h
     simp only [Bool.not_false, cond_true] at h
     exact (no e0 h).elim
   ·rw [decide_eq_false hm] at h
    simp only [Bool.not_false, cond_true] at h
    exact (no (by decide) h).elim
  ·rw [decide_eq_false e1] at h
   simp only [Bool.not_false, Bool.not_true, gfalse, cond_true] at h
   exact (no (by decide) h).elim

end Go.L

namespace Go.L
open Go Go.Pv
set_option maxRecDepth 100000

abbrev Sta := Nat × Flt
structure okB (b : List Int) : Prop where
 u8 : ∀ v ∈ b, inR .u8 v = true
 len : b.length ≤ 100000

end Go.L

namespace Go.L
open Go Go.Pv
set_option maxRecDepth 100000

structure Codec (b : List Int) {α : Type} (R : Sta → α × Sta) (V : α → Prop) (e : α → List Int) : Prop where
 stick : ∀ s f, s.2 = some f → (R s).2 = s
 enc : ∀ x a, V x → a ≤ b.length → e x <+: b.drop a → R (a, none) = (x, a + (e x).length, none)
 cut : ∀ x a, V x → a ≤ b.length → b.drop a <+: e x → (b.drop a).length < (e x).length → ∃ p : Nat, (R (a, none)).2.2 = some (3, (p : Int), ()) ∧ p ≤ b.length
 dec : ∀ a, a ≤ b.length → (R (a, none)).2.2 = none → V (R (a, none)).1 ∧ e (R (a, none)).1 <+: b.drop a ∧ (R (a, none)).2.1 = a + (e (R (a, none)).1).length

theorem pre_drop {l e1 e2 : List Int} (h : e1 ++ e2 <+: l) : e1 <+: l ∧ e2 <+: l.drop e1.length := by
 obtain ⟨t, rfl⟩ := h
 refine ⟨⟨e2 ++ t, by rw [List.append_assoc]⟩, ⟨t, ?_⟩⟩
 rw [List.append_assoc, List.drop_left]

theorem pre_len {l e : List Int} (h : e <+: l) : e.length ≤ l.length := h.length_le

theorem sta_none {s : Sta} (h : s.2 = none) : s = (s.1, none) := by
 obtain ⟨a, f⟩ := s
 obtain rfl : f = none := h
 rfl

theorem Codec.seq {b : List Int} {α β : Type} {R1 : Sta → α × Sta} {R2 : α → Sta → β × Sta} {V1 : α → Prop} {V2 : α → β → Prop} {e1 : α → List Int} {e2 : α → β → List Int}
  (h1 : Codec b R1 V1 e1) (h2 : ∀ x, V1 x → Codec b (R2 x) (V2 x) (e2 x)) (hs : ∀ x s f, s.2 = some f → (R2 x s).2 = s) :
  Codec b (fun s => (((R1 s).1, (R2 (R1 s).1 (R1 s).2).1), (R2 (R1 s).1 (R1 s).2).2)) (fun p => V1 p.1 ∧ V2 p.1 p.2) (fun p => e1 p.1 ++ e2 p.1 p.2) where
 stick s f hf := by
  show (R2 (R1 s).1 (R1 s).2).2 = s
  rw [h1.stick s f hf]
  exact hs _ _ _ hf
 enc x a hV ha hp := by
  obtain ⟨p1, p2⟩ := pre_drop hp
  have hl := pre_len p1
  rw [List.length_drop] at hl
  have r1 := h1.enc x.1 a hV.1 ha p1
  rw [List.drop_drop] at p2
  have r2 := (h2 x.1 hV.1).enc x.2 (a + (e1 x.1).length) hV.2 (by omega) p2
  show (((R1 (a, none)).1, (R2 (R1 (a, none)).1 (R1 (a, none)).2).1), (R2 (R1 (a, none)).1 (R1 (a, none)).2).2) = (x, a + (e1 x.1 ++ e2 x.1 x.2).length, none)
  rw [r1]
  show ((x.1, (R2 x.1 (a + (e1 x.1).length, none)).1), (R2 x.1 (a + (e1 x.1).length, none)).2) = _
  rw [r2, List.length_append, Nat.add_assoc]
 cut x a hV ha hp hl := by
  dsimp only at hp hl ⊢
  by_cases hc : (b.drop a).length < (e1 x.1).length
  ·have hp1 : b.drop a <+: e1 x.1 := List.prefix_of_prefix_length_le hp (List.prefix_append _ _) (by omega)
   obtain ⟨p, hp2, hp3⟩ := h1.cut x.1 a hV.1 ha hp1 hc
   refine ⟨p, ?_, hp3⟩
   rw [hs _ _ _ hp2, hp2]
  ·have hp1 : e1 x.1 <+: b.drop a := List.prefix_of_prefix_length_le (List.prefix_append _ _) hp (by omega)
   have r1 := h1.enc x.1 a hV.1 ha hp1
   have hl2 := pre_len hp1
   rw [List.length_drop] at hl2
   rw [List.length_append] at hl
   have hp4 : b.drop (a + (e1 x.1).length) <+: e2 x.1 x.2 := by
    obtain ⟨t, ht⟩ := hp
    refine ⟨t, ?_⟩
    have := congrArg (List.drop (e1 x.1).length) ht
    rw [List.drop_left, List.drop_append_of_le_length (by rw [List.length_drop]; omega), List.drop_drop] at this
    exact this
   obtain ⟨p, hp2, hp3⟩ := (h2 x.1 hV.1).cut x.2 (a + (e1 x.1).length) hV.2 (by omega) hp4 (by rw [List.length_drop] at hl ⊢; omega)
   refine ⟨p, ?_, hp3⟩
   rw [r1]
   exact hp2
 dec a ha hn := by
  dsimp only at hn ⊢
  have hn1 : (R1 (a, none)).2.2 = none := by
   cases hf : (R1 (a, none)).2.2 with
   | none => rfl
   | some f =>
    rw [hs _ _ _ hf, hf] at hn
    cases hn
  obtain ⟨d1, d2, d3⟩ := h1.dec a ha hn1
  have hl := pre_len d2
  rw [List.length_drop] at hl
  have hst := sta_none hn1
  rw [d3] at hst
  rw [hst] at hn ⊢
  obtain ⟨c1, c2, c3⟩ := (h2 _ d1).dec _ (by omega) hn
  refine ⟨⟨d1, c1⟩, ?_, ?_⟩
  ·obtain ⟨t, ht⟩ := d2
   have := congrArg (List.drop (e1 (R1 (a, none)).1).length) ht
   rw [List.drop_left, List.drop_drop] at this
   rw [← this] at c2
   rw [← ht]
   exact (List.prefix_append_right_inj _).2 c2
  ·rw [c3, List.length_append]
   omega

theorem Codec.map {b : List Int} {α β : Type} {R : Sta → α × Sta} {R' : Sta → β × Sta} {V : α → Prop} {V' : β → Prop} {e : α → List Int} {e' : β → List Int} {f : α → β} (g : β → α)
  (h : Codec b R V e) (hR2 : ∀ s, (R' s).2 = (R s).2) (hR1 : ∀ s, (R s).2.2 = none → (R' s).1 = f (R s).1)
  (h1 : ∀ y, V' y → V (g y) ∧ f (g y) = y ∧ e' y = e (g y)) (h2 : ∀ x, V x → V' (f x) ∧ e' (f x) = e x) : Codec b R' V' e' where
 stick s t ht := by rw [hR2]; exact h.stick s t ht
 enc y a hV ha hp := by
  obtain ⟨k1, k2, k3⟩ := h1 y hV
  rw [k3] at hp ⊢
  have r := h.enc (g y) a k1 ha hp
  have r1 := hR1 (a, none) (by rw [r])
  have r2 := hR2 (a, none)
  rw [r] at r1 r2
  dsimp only at r1 r2
  rw [k2] at r1
  exact Prod.ext r1 r2
 cut y a hV ha hp hl := by
  obtain ⟨k1, k2, k3⟩ := h1 y hV
  rw [k3] at hp hl
  rw [hR2]
  exact h.cut (g y) a k1 ha hp hl
 dec a ha hn := by
  rw [hR2] at hn ⊢
  rw [hR1 _ hn]
  obtain ⟨d1, d2, d3⟩ := h.dec a ha hn
  obtain ⟨k1, k2⟩ := h2 _ d1
  rw [k2]
  exact ⟨k1, d2, d3⟩

abbrev vn (v : Int × Int × Int × Unit) : Nat := v.2.1.toNat * 18446744073709551616 + v.2.2.1.toNat
theorem okV_of {w : Int} {x : Nat} (h : x < 340282366920938463463374607431768211456) : okV (vw w x) ∧ vn (vw w x) = x := by
 unfold okV vn vw wp
 dsimp only
 refine ⟨⟨?_, ?_⟩, ?_⟩
 ·simp [inR, IntKind.min, IntKind.max, IntKind.signed, IntKind.bits]; omega
 ·simp [inR, IntKind.min, IntKind.max, IntKind.signed, IntKind.bits]; omega
 ·omega

end Go.L

namespace Go.L
open Go Go.Pv
set_option maxRecDepth 100000

theorem mark_low {c : Int} (h : isMark c = true) : 37 < c ∧ c < 128 := by
 have : c ∈ marksL := by simpa [isMark] using h
 simp [marksL] at this
 omega

theorem chr10 {d : Nat} (h : d < 10) : 48 ≤ chr d ∧ chr d ≤ 57 := by
 unfold chr
 rw [if_pos h]
 omega

theorem chr16 {d : Nat} (h : d < 16) : (48 ≤ chr d ∧ chr d ≤ 57) ∨ (97 ≤ chr d ∧ chr d ≤ 102) := by
 unfold chr
 split <;> omega

theorem dgt_dig {c : Int} (h : 48 ≤ c ∧ c ≤ 57) : dgt c = true := by
 unfold dgt digB rngB
 rw [decide_eq_true h.1, decide_eq_true h.2]
 simp

theorem dgt_let {c : Int} (h : 97 ≤ c ∧ c ≤ 102) : dgt c = true := by
 unfold dgt letB rngB
 rw [decide_eq_true (show (97 : Int) ≤ c from h.1), decide_eq_true (show c ≤ 122 by omega)]
 simp

theorem dig_first {c : Int} (h : 48 ≤ c ∧ c ≤ 57) : isMark c = false ∧ letB c = false ∧ digB c = true := by
 refine ⟨?_, ?_, ?_⟩
 ·cases hm : isMark c with
  | false => rfl
  | true =>
   have : c ∈ marksL := by simpa [isMark] using hm
   simp [marksL] at this
   omega
 ·unfold letB rngB
  simp only [Bool.or_eq_false_iff, Bool.and_eq_false_iff, decide_eq_false_iff_not, Bool.not_eq_false']
  refine ⟨⟨⟨.inl (by omega), .inl (by omega)⟩, by omega⟩, .inr ⟨⟨.inl (by omega), .inl (by omega)⟩, .inl (by omega)⟩⟩
 ·unfold digB rngB
  rw [decide_eq_true h.1, decide_eq_true h.2]
  rfl

def atT (a : Int) (t : Tok) : Tok := (t.1, t.2.1, t.2.2.1, t.2.2.2.1, a, ())

def gT (t : Tok) : Prop := (ttx t).length ≠ 0 ∧ (ttx t).length ≤ 400 ∧ okV t.2.2.2.1 ∧ ∀ a, oneT (ttx t) a = (atT a t, (ttx t).length, 0)

theorem okV_vZ : okV vZ := ⟨rfl, rfl⟩

theorem one_digits {L : List Int} {c : Int} {r : List Int} (hL : L = c :: r) (hc : 48 ≤ c ∧ c ≤ 57) (hd : ∀ x ∈ L, 0 ≤ x ∧ x < 128 ∧ dgt x = true) {t : Tok} {a : Int} (ht : numT L a = (t, 0)) : oneT L a = (t, L.length, 0) := by
 have hf : fst5 L = (c.toNat, 1) := by rw [hL]; exact fst5_low (by omega) (by omega)
 have hcc : (((fst5 L).1 : Nat) : Int) = c := by rw [hf]; show ((c.toNat : Nat) : Int) = c; omega
 obtain ⟨d1, d2, d3⟩ := dig_first hc
 exact one_num (n := L.length) (by rw [hcc]; exact d1) (by rw [hcc]; exact d2) (by rw [hcc]; exact d3) (lng_all dgt L hd) (by rw [List.take_length]; exact ht)

theorem good_row {W x : Nat} (hm : may (W : Int) x = true) (p : Int) : gT (3, [], 0, vw (W : Int) x, p, ()) := by
 have hx := lt128 hm
 obtain ⟨m1, m2, m3⟩ := may_of hm
 obtain ⟨o1, o2⟩ := okV_of (w := (W : Int)) hx
 have ht : ttx (3, [], 0, vw (W : Int) x, p, ()) = text 10 W ++ [39] ++ text 16 x := by
  show vtxt (vw (W : Int) x) = _
  have : vtxt (vw (W : Int) x) = vtx (W : Int) (vn (vw (W : Int) x)) := rfl
  rw [this, o2]
  unfold vtx
  rw [if_pos hm]
  rfl
 obtain ⟨d, r, e, hd, _, _⟩ := text_head (b := 10) (by omega) W
 have l1 := text_len (b := 10) (w := W) (by omega) (by omega)
 have l2 := text_len (b := 16) (w := x) (by omega) hx
 unfold gT
 rw [ht]
 refine ⟨by simp, by simp only [List.length_append, List.length_cons, List.length_nil]; omega, o1, fun a => ?_⟩
 have hp := vec_Parse_text hm
 refine one_digits (c := chr d) (r := r ++ [39] ++ text 16 x) (by rw [e]; simp) (chr10 hd) (fun c hc => ?_) (num_row (by simp only [List.length_append, List.length_cons, List.length_nil]; omega) ?_ hp a)
 ·simp only [List.mem_append, List.mem_singleton] at hc
  rcases hc with (hc | rfl) | hc
  ·obtain ⟨k, hk, rfl⟩ := text_dig (by omega) hc
   have := chr10 hk
   exact ⟨by omega, by omega, dgt_dig this⟩
  ·exact ⟨by decide, by decide, by decide⟩
  ·obtain ⟨k, hk, rfl⟩ := text_dig (by omega) hc
   rcases chr16 hk with h | h
   ·exact ⟨by omega, by omega, dgt_dig h⟩
   ·exact ⟨by omega, by omega, dgt_let h⟩
 ·unfold pos
  exact List.findIdx_lt_length_of_exists ⟨39, by simp, by decide⟩

theorem good_num {w : Nat} (hw : w < 9223372036854775808) (p : Int) : gT (2, [], (w : Int), vZ, p, ()) := by
 have hn : nat64 (w : Int) = w := by unfold nat64; omega
 have ht : ttx (2, [], (w : Int), vZ, p, ()) = text 10 w := by
  show (if (w : Int) < 0 then [] else text 10 (nat64 (w : Int))) = _
  rw [if_neg (by omega), hn]
 obtain ⟨d, r, e, hd, _, _⟩ := text_head (b := 10) (by omega) w
 have l1 := text_len (b := 10) (w := w) (by omega) (by omega)
 have hall : ∀ c ∈ text 10 w, 48 ≤ c ∧ c ≤ 57 := fun c hc => by
  obtain ⟨k, hk, rfl⟩ := text_dig (by omega) hc
  exact chr10 hk
 unfold gT
 rw [ht]
 refine ⟨by rw [e]; simp, by omega, okV_vZ, fun a => ?_⟩
 have hne : text 10 w ≠ [] := text_ne (by omega)
 have hp : word_Parse (text 10 w) 10 = some ((wp w, 0, ()), ()) := by
  have := word_Parse_ok (b := 10) (l := text 10 w) (by omega) (by omega) hne (by omega)
  rw [read_text (by omega) (by omega) (by omega)] at this
  exact this
 have hx : (text 10 w).take 2 ≠ [48, 120] := fun h => by
  have : (120 : Int) ∈ (text 10 w).take 2 := by rw [h]; simp
  have := hall _ (List.mem_of_mem_take this)
  omega
 have hq : pos 39 (text 10 w) = (text 10 w).length := pos_none fun c hc => by have := hall c hc; omega
 refine one_digits (c := chr d) (r := r) e (chr10 hd) (fun c hc => by have := hall c hc; exact ⟨by omega, by omega, dgt_dig this⟩) ?_
 rw [num_num (w := w) (c := 0) (by omega) (by omega) (by omega) (by rw [if_neg hx, if_neg hx]; exact hp) a]
 unfold numR
 rw [if_neg (by omega), if_pos ⟨rfl, hw⟩]
 rfl

theorem tok_good {y : List Int} (h0 : y.length ≠ 0) (hn : y.length ≤ 100000) (p : Int) (hz : (oneT y p).2.2 = 0) : gT (oneT y p).1 := by
 have hw := fst5_w h0
 have hl1 := lng_le okC y
 have hl2 := lng_le dgt y
 unfold oneT at hz ⊢
 by_cases hm : isMark ((fst5 y).1 : Int) = true
 ·rw [if_pos hm]
  obtain ⟨_, g2⟩ := mark_low hm
  have h1 := fst5_one (l := y) (by omega)
  have hf := fst5_take h0
  rw [h1] at hf
  have hlen : (y.take 1).length = 1 := by rw [List.length_take]; omega
  show (y.take 1).length ≠ 0 ∧ (y.take 1).length ≤ 400 ∧ okV vZ ∧ ∀ a, oneT (y.take 1) a = ((0, y.take 1, 0, vZ, a, ()), (y.take 1).length, 0)
  refine ⟨by omega, by omega, okV_vZ, fun a => ?_⟩
  rw [one_mark (by rw [hf]; exact hm), hlen, List.take_take]
  rfl
 rw [if_neg hm] at hz ⊢
 by_cases hL : letB ((fst5 y).1 : Int) = true
 ·rw [if_pos hL] at hz ⊢
  by_cases hM : mayS (y.take (lng okC y)) = true
  ·rw [if_pos hM]
   have hml := mayS_len hM
   have hlen : (y.take (lng okC y)).length = lng okC y := by rw [List.length_take]; omega
   have hp : (fst5 y).2 ≤ lng okC y := by
    rw [lng_eq okC h0, if_pos (by unfold okC; rw [hL]; rfl)]; omega
   have hf := fst5_pre h0 hp hl1
   show (y.take (lng okC y)).length ≠ 0 ∧ (y.take (lng okC y)).length ≤ 400 ∧ okV vZ ∧ ∀ a, oneT (y.take (lng okC y)) a = ((1, y.take (lng okC y), 0, vZ, a, ()), (y.take (lng okC y)).length, 0)
   refine ⟨by omega, by omega, okV_vZ, fun a => ?_⟩
   have := one_word (l := y.take (lng okC y)) (a := a) (n := lng okC y) (by rw [hf]; simpa using hm) (by rw [hf]; exact hL) (lng_take okC _ y (Nat.le_refl _)) (by rw [List.take_take, Nat.min_self]; exact hM)
   rw [this, hlen, List.take_take, Nat.min_self]
  ·rw [if_neg hM] at hz
   exact absurd hz (by decide : (2 : Int) ≠ 0)
 rw [if_neg hL] at hz ⊢
 by_cases hD : digB ((fst5 y).1 : Int) = true
 ·rw [if_pos hD] at hz ⊢
  dsimp only at hz ⊢
  have hs : (y.take (lng dgt y)).length ≤ 100000 := by rw [List.length_take]; omega
  generalize y.take (lng dgt y) = s at hs hz ⊢
  obtain ⟨t, e, h1, _, hd⟩ := numbers hs p
  have hnT : numT s p = (t, e) := by unfold numT; rw [h1]
  rw [hnT] at hz ⊢
  have hz : e = 0 := hz
  subst hz
  rcases hd with ⟨_, v, c, h2, h3⟩ | ⟨_, w, c, hw, h2, h3⟩
  ·simp only [Prod.mk.injEq, and_true] at h3
   obtain ⟨h4, h5⟩ := h3
   rw [← h5] at h2
   obtain ⟨W, x, rfl, hm⟩ := parsed_may hs h2
   have := good_row hm p
   have e : t = (3, [], 0, vw (W : Int) x, p, ()) := by
    obtain ⟨a1, a2, a3, a4, a5, _⟩ := t
    simp only [Prod.mk.injEq, and_true] at h4
    obtain ⟨rfl, rfl, rfl, rfl, rfl⟩ := h4
    rfl
   rw [e]
   exact this
  ·unfold numR at h3
   split at h3
   ·have : (0 : Int) = 4 := congrArg (fun x => x.2.1) h3
    omega
   split at h3
   ·rename_i hc
    have e : t = (2, [], (w : Int), vZ, p, ()) := (congrArg (fun x => x.1) h3)
    rw [e]
    exact good_num hc.2 p
   ·have : (0 : Int) = 7 := congrArg (fun x => x.2.1) h3
    omega
 ·rw [if_neg hD] at hz
  exact absurd hz (by decide : (4 : Int) ≠ 0)

theorem scan_good : ∀ (n : Nat) (s : List Int) (a : Nat) (acc l : List Tok), s.length ≤ n → s.length ≤ 100000 → (∀ t ∈ acc, gT t) → scanA s a acc = .inl l → ∀ t ∈ l, gT t := by
 intro n
 induction n with
 | zero =>
  intro s a acc l h _ hacc hl
  obtain rfl := List.length_eq_zero_iff.1 (show s.length = 0 by omega)
  rw [scanA_end (s := []) (skN false)] at hl
  simp only [Sum.inl.injEq] at hl
  subst hl
  exact hacc
 | succ n ih =>
  intro s a acc l h hs hacc hl
  have hle := skipC_le false s
  rcases Nat.lt_or_ge (skipC false s) s.length with h1 | h1
  ·generalize hn : skipC false s = m at *
   have h0 : (s.drop m).length ≠ 0 := by rw [List.length_drop]; omega
   by_cases hz : (oneT (s.drop m) ((a + m : Nat) : Int)).2.2 = 0
   ·obtain ⟨p1, p2⟩ := one_pos h0 _ hz
    rw [List.length_drop] at p2
    have hg := tok_good h0 (by rw [List.length_drop]; omega) _ hz
    rw [scanA_on hn h1 a acc hz] at hl
    refine ih _ _ _ l (by rw [List.length_drop]; omega) (by rw [List.length_drop]; omega) (fun t ht => ?_) hl
    rcases List.mem_append.1 ht with ht | ht
    ·exact hacc t ht
    ·obtain rfl := List.mem_singleton.1 ht
     exact hg
   ·rw [scanA_bad hn h1 a acc hz] at hl
    cases hl
  ·rw [scanA_end (by omega)] at hl
   simp only [Sum.inl.injEq] at hl
   subst hl
   exact hacc

theorem text_bytes {b w : Nat} (hb : 2 ≤ b) (hb2 : b ≤ 16) : bytesL (text b w) := fun c hc => by
 obtain ⟨k, hk, rfl⟩ := text_dig hb hc
 have : 48 ≤ chr k ∧ chr k ≤ 102 := by
  rcases chr16 (d := k) (by omega) with h | h <;> omega
 simp [inR, IntKind.min, IntKind.max, IntKind.signed, IntKind.bits]
 omega

theorem vtx_bytes (w : Int) (x : Nat) : bytesL (vtx w x) := fun c hc => by
 unfold vtx at hc
 split at hc
 ·simp only [List.mem_append, List.mem_singleton] at hc
  rcases hc with (hc | rfl) | hc
  ·exact text_bytes (by omega) (by omega) c hc
  ·rfl
  ·exact text_bytes (by omega) (by omega) c hc
 ·cases hc

theorem ttx_bytes {t : Tok} (h : bytesL t.2.1) : bytesL (ttx t) := by
 unfold ttx
 split
 ·exact h
 split
 ·exact h
 split
 ·split
  ·intro c hc; cases hc
  ·exact text_bytes (by omega) (by omega)
 split
 ·exact vtx_bytes _ _
 ·intro c hc; cases hc

theorem num_nil {s : List Int} (hs : s.length ≤ 100000) (p : Int) : (numT s p).1.2.1 = [] := by
 obtain ⟨t, e, h1, _, hd⟩ := numbers hs p
 have hnT : numT s p = (t, e) := by unfold numT; rw [h1]
 rw [hnT]
 rcases hd with ⟨_, v, c, h2, h3⟩ | ⟨_, w, c, hw, h2, h3⟩
 ·exact congrArg (fun x : Tok × Int × Unit => x.1.2.1) h3
 ·have : t.2.1 = (numR w c p).1.2.1 := (congrArg (fun x : Tok × Int × Unit => x.1.2.1) h3)
  show t.2.1 = []
  rw [this]
  unfold numR
  split
  ·rfl
  split <;> rfl

theorem one_bytes {y : List Int} (hy : bytesL y) (hn : y.length ≤ 100000) (p : Int) : bytesL (oneT y p).1.2.1 := by
 have hnil : bytesL [] := fun c hc => by cases hc
 unfold oneT
 split
 ·exact hy.take 1
 split
 ·split
  ·exact hy.take _
  ·exact hnil
 split
 ·show bytesL (numT (y.take (lng dgt y)) p).1.2.1
  rw [num_nil (by rw [List.length_take]; omega)]
  exact hnil
 ·exact hnil

theorem scan_bytes : ∀ (n : Nat) (s : List Int) (a : Nat) (acc l : List Tok), s.length ≤ n → bytesL s → (∀ t ∈ acc, bytesL (ttx t)) → s.length ≤ 100000 → scanA s a acc = .inl l → ∀ t ∈ l, bytesL (ttx t) := by
 intro n
 induction n with
 | zero =>
  intro s a acc l h _ hacc _ hl
  obtain rfl := List.length_eq_zero_iff.1 (show s.length = 0 by omega)
  rw [scanA_end (s := []) (skN false)] at hl
  simp only [Sum.inl.injEq] at hl
  subst hl
  exact hacc
 | succ n ih =>
  intro s a acc l h hb hacc hs hl
  have hle := skipC_le false s
  rcases Nat.lt_or_ge (skipC false s) s.length with h1 | h1
  ·generalize hn : skipC false s = m at *
   have h0 : (s.drop m).length ≠ 0 := by rw [List.length_drop]; omega
   by_cases hz : (oneT (s.drop m) ((a + m : Nat) : Int)).2.2 = 0
   ·obtain ⟨p1, p2⟩ := one_pos h0 _ hz
    rw [List.length_drop] at p2
    have hg := one_bytes (hb.drop m) (by rw [List.length_drop]; omega) ((a + m : Nat) : Int)
    rw [scanA_on hn h1 a acc hz] at hl
    refine ih _ _ _ l (by rw [List.length_drop]; omega) (hb.drop _) (fun t ht => ?_) (by rw [List.length_drop]; omega) hl
    rcases List.mem_append.1 ht with ht | ht
    ·exact hacc t ht
    ·obtain rfl := List.mem_singleton.1 ht
     exact ttx_bytes hg
   ·rw [scanA_bad hn h1 a acc hz] at hl
    cases hl
  ·rw [scanA_end (by omega)] at hl
   simp only [Sum.inl.injEq] at hl
   subst hl
   exact hacc

theorem one_noskip {c : Int} {r : List Int} (h0 : 0 ≤ c) (a : Int) (hz : (oneT (c :: r) a).2.2 = 0) : c ≠ 35 ∧ ws c = false := by
 by_cases hc : c < 128
 ·have hf : fst5 (c :: r) = (c.toNat, 1) := fst5_low h0 hc
  have hcc : (((fst5 (c :: r)).1 : Nat) : Int) = c := by rw [hf]; show ((c.toNat : Nat) : Int) = c; omega
  have key : ∀ k : Int, c = k → isMark k = false → letB k = false → digB k = false → False := fun k hk k1 k2 k3 => by
   unfold oneT at hz
   rw [hcc, hk, if_neg (by rw [k1]; simp), if_neg (by rw [k2]; simp), if_neg (by rw [k3]; simp)] at hz
   exact absurd hz (by decide : (4 : Int) ≠ 0)
  refine ⟨fun h => key 35 h (by decide) (by decide) (by decide), ?_⟩
  cases hw : ws c with
  | false => rfl
  | true =>
   unfold ws at hw
   simp only [Bool.or_eq_true, decide_eq_true_eq] at hw
   rcases hw with ((h | h) | h) | h
   ·exact (key 32 h (by decide) (by decide) (by decide)).elim
   ·exact (key 9 h (by decide) (by decide) (by decide)).elim
   ·exact (key 10 h (by decide) (by decide) (by decide)).elim
   ·exact (key 13 h (by decide) (by decide) (by decide)).elim
 ·refine ⟨by omega, ?_⟩
  unfold ws
  rw [decide_eq_false (by omega), decide_eq_false (by omega), decide_eq_false (by omega), decide_eq_false (by omega)]
  rfl

theorem jtx_cons (t : Tok) (l : List Tok) : jtx (t :: l) = if l.length = 0 then ttx t else ttx t ++ 32 :: jtx l := by
 cases l with
 | nil => simp [jtx, joinI]
 | cons x l => simp [jtx, joinI]

theorem scan_join : ∀ (l : List Tok), (∀ t ∈ l, gT t) → bytesL (jtx l) → ∀ (a : Nat) (acc : List Tok), ∃ m, scanA (jtx l) a acc = .inl (acc ++ m) ∧ m.map (atT 0) = l.map (atT 0)
 | [], _, _, a, acc => ⟨[], by rw [List.append_nil]; exact scanA_end (s := []) (skN false) a acc, rfl⟩
 | t :: l, hg, hb, a, acc => by
  obtain ⟨g0, g1, g2, g3⟩ := hg t (by simp)
  obtain ⟨c, r, hcr⟩ : ∃ c r, ttx t = c :: r := by
   cases h : ttx t with
   | nil => rw [h] at g0; exact absurd rfl g0
   | cons c r => exact ⟨c, r, rfl⟩
  have hjc := jtx_cons t l
  have hc0 : 0 ≤ c := by
   have : c ∈ jtx (t :: l) := by
    rw [hjc, hcr]
    split <;> simp
   have := hb c this
   simp [inR, IntKind.min, IntKind.max, IntKind.signed, IntKind.bits] at this
   omega
  have hsk : ∀ X, skipC false (ttx t ++ X) = 0 := fun X => by
   obtain ⟨n1, n2⟩ := one_noskip hc0 0 (by rw [← hcr, g3 0] : (oneT (c :: r) 0).2.2 = 0)
   rw [hcr, List.cons_append, skF, if_neg n1, if_neg (by rw [n2]; simp)]
  by_cases hl : l.length = 0
  ·obtain rfl := List.length_eq_zero_iff.1 hl
   rw [if_pos hl] at hjc
   have ho := g3 ((a + 0 : Nat) : Int)
   have hs0 : skipC false (ttx t) = 0 := by have := hsk []; rw [List.append_nil] at this; exact this
   refine ⟨[atT (a + 0 : Nat) t], ?_, rfl⟩
   rw [hjc, scanA_on hs0 (by omega) a acc (by rw [List.drop_zero, ho]), List.drop_zero, ho]
   dsimp only
   rw [Nat.zero_add, List.drop_length]
   exact scanA_end (s := []) (skN false) _ _
  ·rw [if_neg hl] at hjc
   have ho := one_cut (y := ttx t) (R := jtx l) (c := 32) g0 (by decide) (by decide) (by decide) (by decide) ((a + 0 : Nat) : Int)
   rw [g3] at ho
   have hbl : bytesL (jtx l) := fun v hv => hb v (by rw [hjc]; simp [hv])
   obtain ⟨m, h1, h2⟩ := scan_join l (fun t ht => hg t (by simp [ht])) hbl (a + (ttx t).length + 1) (acc ++ [atT ((a + 0 : Nat) : Int) t])
   refine ⟨atT ((a + 0 : Nat) : Int) t :: m, ?_, by rw [List.map_cons, List.map_cons, h2]; rfl⟩
   rw [hjc, scanA_on (hsk _) (by rw [List.length_append]; omega) a acc (by rw [List.drop_zero, ho]), List.drop_zero, ho]
   dsimp only
   rw [Nat.zero_add, List.drop_left]
   have hs1 : skipC false (32 :: jtx l) = 1 + skipC false (jtx l) := by rw [skF, if_neg (by decide), if_pos (by decide)]; omega
   rw [scanA_skip hs1 rfl (by simp), h1]
   simp

end Go.L
