/- The functions of this seat, and the laws as plain Lean. -/
import Derived.Test.YtnaclmcmicckeaaQ12

set_option linter.unusedSimpArgs false
set_option linter.unusedVariables false

namespace Go.Proofs.Ytnaclmcmicckeaa
open Go Go.Pv Go.Proofs Go.L
set_option maxRecDepth 100000

theorem step_ok {l : List Slot} {most n : Nat} {r : List It} (h : Ivt most n l) (hL : Lk n l r) {o : Op} (ho : okV o.2.2.1) :
  ∃ (l' : List Slot) (n' : Nat) (r' : List It), law19_step_fa9 (l, (n : Int), (most : Int), ()) r (most : Int) o = some ((r', true, ()), (l', (n' : Int), (most : Int), ()), ()) ∧ Ivt most n' l' ∧ Lk n' l' r' ∧ ((∀ x ∈ r, mayV x.1 = true ∧ okV x.1) → ∀ x ∈ r', mayV x.1 = true ∧ okV x.1) := by
 have hke : ∀ k : K4, (k.1, k.2.1, k.2.2.1, ()) = k := fun _ => rfl
 have hsm := h.sm
 have hbig := h.big
 have hnm := h.nm
 have hlen := hL.len
 have hmay := (mayV_ok ho).2
 unfold law19_step_fa9
 dsimp only
 rw [hke]
 generalize o.2.2.1 = k at *
 have hfind := ref_find r k (by omega)
 by_cases h0 : o.1 = 0
 ·rw [decide_eq_true h0, cond_true]
  unfold ref19_Put
  simp only [hke, hmay, Option.bind_some]
  rcases put_ok h (v := o.2.1) ho with ⟨q, e⟩ | ⟨q, ⟨w, hw⟩, e⟩ | ⟨q, hn, hq, e⟩ | ⟨q, hn, hq, l', e, hI, hh⟩
  ·simp only [q, Bool.not_false, cond_true, e, Option.bind_some, decide_true]
   exact ⟨l, n, r, rfl, h, hL, fun h => h⟩
  ·rcases hfind with ⟨i, hi, ef, hk⟩ | ⟨ef, hk⟩
   ·simp only [q, Bool.not_true, cond_false, ef, Option.bind_some, decide_eq_true (show (i : Int) ≥ 0 by omega), cond_true, e, decide_true]
    exact ⟨l, n, r, rfl, h, hL, fun h => h⟩
   ·exact absurd hw (hL.none hk w)
  ·rcases hfind with ⟨i, hi, ef, hk⟩ | ⟨ef, hk⟩
   ·exact absurd (hL.find hi hk) (hn _)
   ·simp only [q, Bool.not_true, cond_false, ef, Option.bind_some, decide_eq_false (show ¬ (-1 : Int) ≥ 0 by omega), cond_true, e, decide_true, decide_eq_true (show (r.length : Int) ≥ (most : Int) by omega)]
    exact ⟨l, n, r, rfl, h, hL, fun h => h⟩
  ·rcases hfind with ⟨i, hi, ef, hk⟩ | ⟨ef, hk⟩
   ·exact absurd (hL.find hi hk) (hn _)
   ·simp only [q, Bool.not_true, cond_false, ef, Option.bind_some, decide_eq_false (show ¬ (-1 : Int) ≥ 0 by omega), cond_true, e, decide_true, decide_eq_false (show ¬ (r.length : Int) ≥ (most : Int) by omega), room32 (xs := []) (ys := r) (by simp; omega), List.nil_append, room32 (xs := r) (ys := [(k, o.2.1, ())]) (by simp; omega)]
    exact ⟨l', n + 1, _, rfl, hI, hL.put hn hh, fun hv x hx => by
     rcases List.mem_append.1 hx with hx | hx
     ·exact hv x hx
     ·obtain rfl := List.mem_singleton.1 hx
      exact ⟨q, ho⟩⟩
 rw [decide_eq_false h0, cond_false]
 by_cases h1 : o.1 = 1
 ·rw [decide_eq_true h1, cond_true]
  unfold ref19_Set
  simp only [hke, hmay, Option.bind_some]
  rcases set_ok h (v := o.2.1) ho with ⟨q, e⟩ | ⟨q, hn, e⟩ | ⟨q, ⟨w, hw⟩, l', e, hI, hh⟩
  ·simp only [q, Bool.not_false, cond_true, e, Option.bind_some, decide_true]
   exact ⟨l, n, r, rfl, h, hL, fun h => h⟩
  ·rcases hfind with ⟨i, hi, ef, hk⟩ | ⟨ef, hk⟩
   ·exact absurd (hL.find hi hk) (hn _)
   ·simp only [q, Bool.not_true, cond_false, ef, Option.bind_some, decide_eq_true (show (-1 : Int) < 0 by omega), cond_true, e, decide_true]
    exact ⟨l, n, r, rfl, h, hL, fun h => h⟩
  ·rcases hfind with ⟨i, hi, ef, hk⟩ | ⟨ef, hk⟩
   ·have hi2 : i < ([] ++ r).length := by simpa using hi
    have hx : r[i] = (k, r[i].2.1, ()) := by rw [← hk]
    have hck : Option.map (fun _ => (i : Int)) (ckI (i : Int) r.length) = some (i : Int) := by
     unfold ckI
     rw [if_pos ⟨by omega, by omega⟩]; rfl
    simp only [q, Bool.not_true, cond_false, ef, Option.bind_some, decide_eq_false (show ¬ (i : Int) < 0 by omega), cond_true, e, decide_true, room32 (xs := []) (ys := r) (by simp; omega), List.nil_append, hck, rdI_get hi, Option.map_some]
    have hst : stI r (i : Int) (r[i].1, o.2.1, r[i].2.2) = some (r.set i (k, o.2.1, ())) := by
     rw [stI_nat hi, hk]
    rw [hst, Option.bind_some, Option.bind_some]
    exact ⟨l', n, _, rfl, hI, hL.set hi hk hh, fun hv x hx => by
     rcases List.mem_or_eq_of_mem_set hx with hx | rfl
     ·exact hv x hx
     ·exact ⟨q, ho⟩⟩
   ·exact absurd hw (hL.none hk w)
 rw [decide_eq_false h1, cond_false]
 by_cases h2 : o.1 = 2
 ·rw [decide_eq_true h2, cond_true]
  unfold ref19_Drop
  simp only [hke, hmay, Option.bind_some]
  rcases drop_ok h ho with ⟨q, e⟩ | ⟨q, hn, e⟩ | ⟨q, ⟨w, hw⟩, hn1, l', e, hI, hh⟩
  ·simp only [q, Bool.not_false, cond_true, e, Option.bind_some, decide_true]
   exact ⟨l, n, r, rfl, h, hL, fun h => h⟩
  ·rcases hfind with ⟨i, hi, ef, hk⟩ | ⟨ef, hk⟩
   ·exact absurd (hL.find hi hk) (hn _)
   ·simp only [q, Bool.not_true, cond_false, ef, Option.bind_some, decide_eq_true (show (-1 : Int) < 0 by omega), cond_true, e, decide_true]
    exact ⟨l, n, r, rfl, h, hL, fun h => h⟩
  ·rcases hfind with ⟨i, hi, ef, hk⟩ | ⟨ef, hk⟩
   ·have s1 : subL r 0 (i : Int) = some (r.take i) := by
     unfold subL
     rw [if_pos ⟨by omega, by omega, by omega⟩, Int.toNat_natCast]
     rfl
    have s2 : subL r ((i + 1 : Nat) : Int) (r.length : Int) = some (r.drop (i + 1)) := by
     unfold subL
     rw [if_pos ⟨by omega, by omega, by omega⟩, Int.toNat_natCast, Int.toNat_natCast, List.take_length]
    simp only [q, Bool.not_true, cond_false, ef, Option.bind_some, decide_eq_false (show ¬ (i : Int) < 0 by omega), e, decide_true, s1, room32 (xs := []) (ys := r.take i) (by simp; omega), List.nil_append, wi64 (show i < 1000000000 by omega), s2, room32 (xs := r.take i) (ys := r.drop (i + 1)) (by simp; omega)]
    exact ⟨l', n - 1, _, rfl, hI, hL.drop hi hk hh, fun hv x hx => by
     rcases List.mem_append.1 hx with hx | hx
     ·exact hv x (List.mem_of_mem_take hx)
     ·exact hv x (List.mem_of_mem_drop hx)⟩
   ·exact absurd hw (hL.none hk w)
 rw [decide_eq_false h2, cond_false]
 rcases get_ok h ho with ⟨v, q, hv, e⟩ | ⟨q, e⟩
 ·rw [e, Option.bind_some, hmay, Option.bind_some]
  simp only [q, cond_true]
  rcases hfind with ⟨i, hi, ef, hk⟩ | ⟨ef, hk⟩
  ·have := has_one h (hL.find hi hk) hv
   simp only [hke, ef, Option.bind_some, decide_eq_false (show ¬ (i : Int) < 0 by omega), cond_false, rdI_get hi, this, decide_true, gsome, cond_true]
   exact ⟨l, n, r, rfl, h, hL, fun h => h⟩
  ·exact absurd hv (hL.none hk v)
 ·rw [e, Option.bind_some, hmay, Option.bind_some]
  cases hm : mayV k with
  | false =>
   simp only [cond_false, decide_eq_true (show (-1 : Int) < 0 by omega), cond_true, decide_true, gsome, Bool.not_false]
   exact ⟨l, n, r, rfl, h, hL, fun h => h⟩
  | true =>
   have hno : ∀ w, ¬ has l k w := by
    rcases q with q | q
    ·rw [hm] at q; cases q
    ·exact q
   simp only [cond_true]
   rcases hfind with ⟨i, hi, ef, hk⟩ | ⟨ef, hk⟩
   ·exact absurd (hL.find hi hk) (hno _)
   ·simp only [hke, ef, Option.bind_some, decide_eq_true (show (-1 : Int) < 0 by omega), cond_true, decide_true, gsome, Bool.not_false]
    exact ⟨l, n, r, rfl, h, hL, fun h => h⟩

end Go.Proofs.Ytnaclmcmicckeaa
