/- The functions that the statements reach as plain Lean, and what they compute. -/
import Derived.Test.YtkpiocglghnnhaaDoorQ12

set_option linter.unusedSimpArgs false
set_option linter.unusedVariables false

namespace Go.L
open Go Go.Pv
set_option maxRecDepth 100000

abbrev V4T := Int × Int × Int × Unit
abbrev Rw := List Int × Int × Int × Int × Int × Int × Int × Int × Nat

abbrev Rw.name (r : Rw) := r.1
abbrev Rw.takes (r : Rw) := r.2.1
abbrev Rw.puts (r : Rw) := r.2.2.1
abbrev Rw.many (r : Rw) := r.2.2.2.1
abbrev Rw.a0 (r : Rw) := r.2.2.2.2.1
abbrev Rw.a1 (r : Rw) := r.2.2.2.2.2.1
abbrev Rw.b0 (r : Rw) := r.2.2.2.2.2.2.1
abbrev Rw.b1 (r : Rw) := r.2.2.2.2.2.2.2.1
abbrev Rw.ty (r : Rw) := r.2.2.2.2.2.2.2.2
end Go.L

namespace Go.L
open Go Go.Pv
set_option maxRecDepth 100000

theorem vec_Text_bad {w : Int} {x : Nat} (hm : may w x = false) (hx : x < 340282366920938463463374607431768211456) : vec_Text (vw w x) = some (([], ()), ()) := by
 have hpv : ((vw w x).1, (vw w x).2.1, (vw w x).2.2.1, ()) = vw w x := rfl
 unfold vec_Text
 rw [hpv, vec_May_ok hx, Option.bind_some, hm]
 rfl

def vtx (w : Int) (x : Nat) : List Int := if may w x = true then text 10 w.toNat ++ [39] ++ text 16 x else []

theorem vtx_ok {w : Int} {x : Nat} (hx : x < 340282366920938463463374607431768211456) : vec_Text (vw w x) = some ((vtx w x, ()), ()) ∧ ref02_Text (vw w x) = some ((vtx w x, ()), ()) := by
 have hpv : ((vw w x).1, (vw w x).2.1, (vw w x).2.2.1, ()) = vw w x := rfl
 unfold vtx
 cases hm : may w x
 ·refine ⟨vec_Text_bad hm hx, ?_⟩
  unfold ref02_Text
  rw [hpv, ref02_May_ok hx, Option.bind_some, hm]
  rfl
 ·rw [if_pos rfl]
  refine ⟨vec_Text_ok hm hx, ?_⟩
  obtain ⟨h1, h2, h3⟩ := may_of hm
  obtain ⟨W, rfl⟩ : ∃ W : Nat, w = W := ⟨w.toNat, by omega⟩
  unfold ref02_Text
  have hl1 := text_len (b := 10) (w := W) (by omega) (by omega)
  have hl2 := text_len (b := 16) (w := x) (by omega) hx
  have hof : ref01_Of 0 (IntKind.u64.wrap (vw (W : Int) x).1) = some ((rowB (BitVec.ofNat 128 W), ()), ()) := by
   rw [show (vw (W : Int) x).1 = (W : Int) from rfl, u64_small (by omega)]
   have := of_wp (w := W) (by omega)
   rw [← wp_small (show W < 1000 by omega)] at this
   exact this
  have e10 : ref01_Text (rowB (BitVec.ofNat 128 W)) 10 = some ((text 10 W, ()), ()) := ref01_Text_ok (b := 10) (by omega) (by omega) (by omega)
  have e16 : ref01_Text (rowB (BitVec.ofNat 128 x)) 16 = some ((text 16 x, ()), ()) := ref01_Text_ok (b := 16) hx (by omega) (by omega)
  have hof2 : ref01_Of (vw (W : Int) x).2.1 (vw (W : Int) x).2.2.1 = some ((rowB (BitVec.ofNat 128 x), ()), ()) := of_wp hx
  rw [hpv, ref02_May_ok hx, Option.bind_some, hm, Bool.not_true, cond_false, hof, Option.bind_some]
  dsimp only
  rw [e10, Option.bind_some]
  dsimp only
  rw [show catI (text 10 W) [39] = some (text 10 W ++ [39]) by unfold catI; rw [if_pos (by simp only [List.length_cons, List.length_nil]; omega)], Option.bind_some, hof2, Option.bind_some]
  dsimp only
  rw [e16, Option.bind_some]
  dsimp only
  rw [show catI (text 10 W ++ [39]) (text 16 x) = some (text 10 W ++ [39] ++ text 16 x) by unfold catI; rw [if_pos (by simp only [List.length_append, List.length_cons, List.length_nil]; omega)], Option.bind_some, Int.toNat_natCast]

theorem vtx_len {w : Int} {x : Nat} (hx : x < 340282366920938463463374607431768211456) : (vtx w x).length ≤ 300 := by
 unfold vtx
 split
 ·rename_i hm
  obtain ⟨h1, h2, h3⟩ := may_of hm
  have hl1 := text_len (b := 10) (w := w.toNat) (by omega) (by omega)
  have hl2 := text_len (b := 16) (w := x) (by omega) hx
  simp only [List.length_append, List.length_cons, List.length_nil]
  omega
 ·simp

end Go.L

namespace Go.L
open Go Go.Pv
set_option maxRecDepth 100000

theorem wrap_nat64 (n : Int) : IntKind.u64.wrap n = (nat64 n : Int) := by
 rw [nat64_eq]
 simp only [IntKind.wrap, IntKind.signed, IntKind.bits]
 simp

theorem nat64_lt (n : Int) : nat64 n < 18446744073709551616 := by unfold nat64; omega

theorem wp_64 {n : Nat} (h : n < 18446744073709551616) : ((0, (n : Int), ()) : Int × Int × Unit) = wp n := by
 unfold wp
 rw [Nat.div_eq_of_lt h, Nat.mod_eq_of_lt h]
 rfl

theorem text_len' {n : Int} : (text 10 (nat64 n)).length ≤ 128 := text_len (by omega) (by have := nat64_lt n; omega)

theorem cat_ok {x y : List Int} (h : x.length + y.length ≤ 1000000000) : catI x y = some (x ++ y) := by
 unfold catI
 rw [if_pos (by omega)]

def vtxt (v : V4T) : List Int := vtx v.1 (v.2.1.toNat * 18446744073709551616 + v.2.2.1.toNat)

theorem vtxt_ok {v : V4T} (h : okV v) : vec_Text v = some ((vtxt v, ()), ()) ∧ ref02_Text v = some ((vtxt v, ()), ()) := by
 obtain ⟨h1, h2⟩ := okV_vw h
 unfold vtxt
 generalize v.2.1.toNat * 18446744073709551616 + v.2.2.1.toNat = x at h1 h2
 have := vtx_ok (w := v.1) h1
 rw [← h2] at this
 exact this

theorem vtxt_len {v : V4T} (h : okV v) : (vtxt v).length ≤ 300 := vtx_len (okV_vw h).1

theorem room16 {α : Type} {xs ys : List α} (h : xs.length + ys.length ≤ 100000) : roomI 16 xs ys = some (xs ++ ys) := by
 unfold roomI
 rw [if_pos (by omega)]

end Go.L

namespace Go.L
open Go Go.Pv
set_option maxRecDepth 100000

def ttx (t : Tok) : List Int := if t.1 = 0 then t.2.1 else if t.1 = 1 then t.2.1 else if t.1 = 2 then (if t.2.2.1 < 0 then [] else text 10 (nat64 t.2.2.1)) else if t.1 = 3 then vtxt t.2.2.2.1 else []

theorem lexText_ok {t : Tok} (hv : okV t.2.2.2.1) : lex_Text t = some ((ttx t, ()), ()) ∧ ref06_Text t = some ((ttx t, ()), ()) := by
 obtain ⟨k, s, n, v, p, _⟩ := t
 dsimp only at hv
 unfold lex_Text ref06_Text ttx
 dsimp only
 by_cases h0 : k = 0
 ·rw [decide_eq_true h0, cond_true, cond_true, if_pos h0]
  exact ⟨rfl, rfl⟩
 rw [decide_eq_false h0, cond_false, cond_false, if_neg h0]
 by_cases h1 : k = 1
 ·rw [decide_eq_true h1, cond_true, cond_true, if_pos h1]
  exact ⟨rfl, rfl⟩
 rw [decide_eq_false h1, cond_false, cond_false, if_neg h1]
 by_cases h2 : k = 2
 ·rw [decide_eq_true h2, cond_true, cond_true, if_pos h2]
  unfold lex_digits
  by_cases hn : n < 0
  ·rw [decide_eq_true hn, cond_true, cond_true, if_pos hn]
   exact ⟨rfl, rfl⟩
  ·rw [decide_eq_false hn, cond_false, cond_false, if_neg hn, wrap_nat64]
   have tx : word_Text (0, (nat64 n : Int), ()) 10 = some ((text 10 (nat64 n), ()), ()) := by
    rw [wp_64 (nat64_lt n)]
    exact word_Text_ok (b := 10) (by have := nat64_lt n; omega) (by omega) (by omega)
   have ro : ref01_Of 0 (nat64 n : Int) = some ((rowB (BitVec.ofNat 128 (nat64 n)), ()), ()) := by
    have := of_wp (w := nat64 n) (by have := nat64_lt n; omega)
    rw [← wp_64 (nat64_lt n)] at this
    exact this
   have rt : ref01_Text (rowB (BitVec.ofNat 128 (nat64 n))) 10 = some ((text 10 (nat64 n), ()), ()) := ref01_Text_ok (b := 10) (by have := nat64_lt n; omega) (by omega) (by omega)
   rw [tx, ro]
   simp only [Option.bind_some, rt]
   exact ⟨trivial, trivial⟩
 rw [decide_eq_false h2, cond_false, cond_false, if_neg h2]
 by_cases h3 : k = 3
 ·rw [decide_eq_true h3, cond_true, cond_true, if_pos h3]
  obtain ⟨a, b⟩ := vtxt_ok hv
  rw [show (v.1, v.2.1, v.2.2.1, ()) = v from rfl, a, b]
  exact ⟨rfl, rfl⟩
 rw [decide_eq_false h3, cond_false, cond_false, if_neg h3]
 exact ⟨rfl, rfl⟩

theorem ttx_len {t : Tok} (hv : okV t.2.2.2.1) : (ttx t).length ≤ t.2.1.length + 300 := by
 unfold ttx
 split
 ·omega
 split
 ·omega
 split
 ·split
  ·simp
  ·have := text_len' (n := t.2.2.1)
   omega
 split
 ·have := vtxt_len hv
  omega
 ·simp

def jtx (l : List Tok) : List Int := joinI (l.map ttx) [32]

theorem jtx_snoc (l : List Tok) (t : Tok) : jtx (l ++ [t]) = if l.length = 0 then ttx t else jtx l ++ [32] ++ ttx t := by
 cases l with
 | nil => simp [jtx, joinI]
 | cons x l => simp [jtx, joinI]

theorem jtx_len : ∀ (l : List Tok) (m : Nat), (∀ t ∈ l, (ttx t).length ≤ m) → (jtx l).length ≤ l.length * (m + 1)
 | [], _, _ => by simp [jtx, joinI]
 | x :: l, m, h => by
  have hx := h x (by simp)
  have : (((l.map ttx).map ([32] ++ ·)).flatten).length ≤ l.length * (m + 1) := by
   clear hx
   induction l with
   | nil => simp
   | cons y l ih =>
    have hy := h y (by simp)
    have := ih (fun t ht => h t (by
     rcases List.mem_cons.1 ht with rfl | ht
     ·simp
     ·simp [ht]))
    simp only [List.map_cons, List.flatten_cons, List.length_append, List.length_cons, List.length_nil, Nat.add_mul] at this ⊢
    omega
  have e : (jtx (x :: l)).length = (ttx x).length + (((l.map ttx).map ([32] ++ ·)).flatten).length := by
   simp only [jtx, joinI, List.map_cons, List.length_append]
  rw [e]
  simp only [List.length_cons, Nat.add_mul]
  omega

theorem lexJoin_ok {l : List Tok} (hv : ∀ t ∈ l, okV t.2.2.2.1) (hl : l.length ≤ 10000) (hj : (jtx l).length ≤ 1000000) : lex_Join l = some ((jtx l, ()), ()) := by
 unfold lex_Join
 refine loop_up (fun i => (((l.take i).map ttx, l, (l.length : Int), (i : Int), ()), ())) l.length (fun i hi => ?_) ?_ 0 (by omega)
 ·dsimp only
  unfold lex_Join_s0
  rw [dlt hi, cond_true, rdI_nat hi, Option.bind_some, (lexText_ok (hv _ (List.getElem_mem hi))).1, Option.bind_some, room16 (by rw [List.length_map, List.length_take]; simp only [List.length_cons, List.length_nil]; omega), Option.bind_some, wi64 (by omega), List.take_succ_eq_append_getElem hi, List.map_append]
  rfl
 ·dsimp only
  unfold lex_Join_s0
  rw [dge, cond_false, List.take_length]
  have : strings_Join (l.map ttx) [32] = some ((jtx l, ()), ()) := by
   unfold strings_Join joinF
   rw [if_pos ⟨hj, by rw [List.length_map]; omega⟩]
   rfl
  rw [this]
  rfl

end Go.L
