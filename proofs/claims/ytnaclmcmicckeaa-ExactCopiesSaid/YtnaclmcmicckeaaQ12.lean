/- The functions that the statements reach as plain Lean, and what they compute. -/
import Derived.Test.YtnaclmcmicckeaaQ11

set_option linter.unusedSimpArgs false
set_option linter.unusedVariables false

namespace Go.L
open Go Go.Pv
set_option maxRecDepth 100000

abbrev It := K4 × Int × Unit

structure Lk (n : Nat) (l : List Slot) (r : List It) : Prop where
 len : r.length = n
 nd : (r.map (·.1)).Nodup
 all : ∀ k v, has l k v ↔ (k, v, ()) ∈ r

theorem ref_find (r : List It) (k : K4) (hr : r.length ≤ 100000) : (∃ (i : Nat) (h : i < r.length), ref19_Find r k = some (((i : Int), ()), ()) ∧ r[i].1 = k) ∨ (ref19_Find r k = some (((-1), ()), ()) ∧ ∀ x ∈ r, x.1 ≠ k) := by
 unfold ref19_Find
 have hke : (k.1, k.2.1, k.2.2.1, ()) = k := rfl
 rw [hke]
 have main : ∀ q i : Nat, r.length - i = q → i ≤ r.length → (∃ (j : Nat) (h : j < r.length), loopR (fun (z : ((List It) × Int × Unit) × (K4 × Unit)) => ref19_Find_s0 z.1.1 z.1.2.1 z.2.1) ((r, (i : Int), ()), k, ()) = some (((j : Int), ()), ()) ∧ r[j].1 = k) ∨
   (loopR (fun (z : ((List It) × Int × Unit) × (K4 × Unit)) => ref19_Find_s0 z.1.1 z.1.2.1 z.2.1) ((r, (i : Int), ()), k, ()) = some (((-1), ()), ()) ∧ ∀ x ∈ r.drop i, x.1 ≠ k) := by
  intro q
  induction q with
  | zero =>
   intro i hq hi
   have : i = r.length := by omega
   subst this
   refine .inr ⟨loopR_out ?_, by simp⟩
   dsimp only
   unfold ref19_Find_s0
   rw [dge, cond_false]
  | succ q ih =>
   intro i hq hi
   have hil : i < r.length := by omega
   have hd : r.drop i = r[i] :: r.drop (i + 1) := List.drop_eq_getElem_cons hil
   have step : (fun (z : ((List It) × Int × Unit) × (K4 × Unit)) => ref19_Find_s0 z.1.1 z.1.2.1 z.2.1) ((r, (i : Int), ()), k, ()) = (bif decide (r[i].1 = k) then some (.inr (((i : Int), ()), ())) else some (.inl ((r, ((i + 1 : Nat) : Int), ()), k, ()))) := by
    dsimp only
    unfold ref19_Find_s0
    rw [dlt hil, cond_true, rdI_get hil, Option.bind_some, keq, wi64 (by omega), hke]
   by_cases hk : r[i].1 = k
   ·rw [decide_eq_true hk, cond_true] at step
    exact .inl ⟨i, hil, loopR_out step, hk⟩
   ·rw [decide_eq_false hk, cond_false] at step
    rcases ih (i + 1) (by omega) (by omega) with ⟨j, hj, e, h⟩ | ⟨e, h⟩
    ·exact .inl ⟨j, hj, loopR_on step e, h⟩
    ·refine .inr ⟨loopR_on step e, fun x hx => ?_⟩
     rw [hd] at hx
     rcases List.mem_cons.1 hx with rfl | hx
     ·exact hk
     ·exact h x hx
 exact main _ 0 rfl (Nat.zero_le _)

theorem Lk.find {n : Nat} {l : List Slot} {r : List It} (h : Lk n l r) {k : K4} {i : Nat} (hi : i < r.length) (hk : r[i].1 = k) : has l k r[i].2.1 := by
 rw [h.all]
 have : r[i] = (k, r[i].2.1, ()) := by rw [← hk]
 rw [← this]
 exact List.getElem_mem hi

theorem Lk.none {n : Nat} {l : List Slot} {r : List It} (h : Lk n l r) {k : K4} (hk : ∀ x ∈ r, x.1 ≠ k) : ∀ v, ¬ has l k v := by
 intro v hv
 exact hk _ ((h.all k v).1 hv) rfl

theorem Lk.idx {n : Nat} {l : List Slot} {r : List It} (h : Lk n l r) {i j : Nat} (hi : i < r.length) (hj : j < r.length) (e : r[i].1 = r[j].1) : i = j := by
 have h1 : (r.map (·.1))[i]'(by simpa using hi) = (r.map (·.1))[j]'(by simpa using hj) := by simpa using e
 exact (List.getElem_inj h.nd).1 h1

theorem Lk.put {n : Nat} {l l' : List Slot} {r : List It} (h : Lk n l r) {k : K4} {v : Int} (hn : ∀ w, ¬ has l k w) (hh : ∀ k' v', has l' k' v' ↔ has l k' v' ∨ (k' = k ∧ v' = v)) : Lk (n + 1) l' (r ++ [(k, v, ())]) := by
 refine ⟨by rw [List.length_append, h.len]; rfl, ?_, fun k' v' => ?_⟩
 ·rw [List.map_append, List.nodup_append]
  refine ⟨h.nd, by simp, ?_⟩
  intro a ha b hb e
  subst e
  simp only [List.map_cons, List.map_nil, List.mem_singleton] at hb
  subst hb
  obtain ⟨x, hx, rfl⟩ := List.mem_map.1 ha
  exact hn x.2.1 ((h.all _ _).2 hx)
 ·rw [hh, h.all, List.mem_append, List.mem_singleton]
  simp only [Prod.mk.injEq, and_true]

theorem Lk.set {n : Nat} {l l' : List Slot} {r : List It} (h : Lk n l r) {k : K4} {v : Int} {i : Nat} (hi : i < r.length) (hk : r[i].1 = k) (hh : ∀ k' v', has l' k' v' ↔ (k' ≠ k ∧ has l k' v') ∨ (k' = k ∧ v' = v)) : Lk n l' (r.set i (k, v, ())) := by
 refine ⟨by rw [List.length_set]; exact h.len, ?_, fun k' v' => ?_⟩
 ·have : (r.set i (k, v, ())).map (·.1) = r.map (·.1) := by
   rw [List.map_set]
   have e : (r.map (·.1))[i]'(by simpa using hi) = k := by simpa using hk
   conv => lhs; arg 3; rw [← e]
   exact List.set_getElem_self _
  rw [this]
  exact h.nd
 ·rw [hh, h.all]
  constructor
  ·rintro (⟨hne, hm⟩ | ⟨rfl, rfl⟩)
   ·obtain ⟨j, hj, e⟩ := List.mem_iff_getElem.1 hm
    rw [List.mem_iff_getElem]
    refine ⟨j, by rw [List.length_set]; exact hj, ?_⟩
    rw [List.getElem_set_ne, e]
    intro q
    subst q
    rw [e] at hk
    exact hne hk
   ·rw [List.mem_iff_getElem]
    exact ⟨i, by rw [List.length_set]; exact hi, by rw [List.getElem_set_self]⟩
  ·intro hm
   obtain ⟨j, hj, e⟩ := List.mem_iff_getElem.1 hm
   rw [List.length_set] at hj
   by_cases q : i = j
   ·subst q
    rw [List.getElem_set_self] at e
    simp only [Prod.mk.injEq, and_true] at e
    exact .inr ⟨e.1.symm, e.2.symm⟩
   ·rw [List.getElem_set_ne q] at e
    refine .inl ⟨fun ek => q (h.idx hi hj ?_), ?_⟩
    ·rw [hk, e, ek]
    ·rw [← e]; exact List.getElem_mem hj

theorem Lk.drop {n : Nat} {l l' : List Slot} {r : List It} (h : Lk n l r) {k : K4} {i : Nat} (hi : i < r.length) (hk : r[i].1 = k) (hh : ∀ k' v', has l' k' v' ↔ k' ≠ k ∧ has l k' v') : Lk (n - 1) l' (r.take i ++ r.drop (i + 1)) := by
 have he : r.take i ++ r.drop (i + 1) = r.eraseIdx i := (List.eraseIdx_eq_take_drop_succ r i).symm
 rw [he]
 refine ⟨by rw [List.length_eraseIdx, if_pos hi, h.len], ?_, fun k' v' => ?_⟩
 ·have : ((r.eraseIdx i).map (·.1)).Sublist (r.map (·.1)) := (List.eraseIdx_sublist r i).map _
  exact this.nodup h.nd
 ·rw [hh, h.all, List.mem_eraseIdx_iff_getElem]
  constructor
  ·rintro ⟨hne, hm⟩
   obtain ⟨j, hj, e⟩ := List.mem_iff_getElem.1 hm
   refine ⟨j, hj, fun q => ?_, e⟩
   subst q
   rw [e] at hk
   exact hne hk
  ·rintro ⟨j, hj, hne, e⟩
   refine ⟨fun ek => hne (h.idx hj hi ?_), ?_⟩
   ·rw [hk, e, ek]
   ·rw [← e]; exact List.getElem_mem hj

theorem room32 {xs ys : List It} (h : xs.length + ys.length ≤ 100000) : roomI 32 xs ys = some (xs ++ ys) := by
 unfold roomI
 rw [if_pos (by omega)]

end Go.L
