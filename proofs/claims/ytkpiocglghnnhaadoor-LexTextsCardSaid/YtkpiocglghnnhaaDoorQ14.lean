/- The functions of this seat, and the laws as plain Lean. -/
import Derived.Test.YtkpiocglghnnhaaDoorQ13

set_option linter.unusedSimpArgs false
set_option linter.unusedVariables false

namespace Go.Proofs.YtkpiocglghnnhaaDoor
open Go Go.Pv Go.Proofs Go.L
set_option maxRecDepth 100000

theorem texts_ok {l : List Tok} (hv : ∀ t ∈ l, okV t.2.2.2.1) : law06_LexTexts l = some ((true, ()), ()) := by
 unfold law06_LexTexts
 by_cases h60 : 60 < l.length
 ·rw [decide_eq_true (by omega), cond_true, lives_ok]
  rfl
 rw [decide_eq_false (by omega), cond_false]
 refine loop_meas (fun z => ∃ i : Nat, i ≤ l.length ∧ z = ((l, l.take i, jtx (l.take i), (i : Int), ()), ()) ∧ ∀ t ∈ l.take i, t.2.1.length ≤ 200) (fun z => l.length - z.1.2.2.2.1.toNat) ?_ ⟨0, by omega, rfl, by simp⟩
 rintro _ ⟨i, hi, rfl, h200⟩
 dsimp only
 unfold law06_LexTexts_s0
 have hjl := jtx_len (l.take i) 500 (fun t ht => by
  have := ttx_len (hv t (List.mem_of_mem_take ht))
  have := h200 t ht
  omega)
 rw [List.length_take] at hjl
 have hjl2 : (jtx (l.take i)).length ≤ 60 * 501 := Nat.le_trans hjl (Nat.mul_le_mul_right _ (by omega))
 rcases Nat.lt_or_ge i l.length with h | h
 ·have hm := hv _ (List.getElem_mem h)
  obtain ⟨t1, t2⟩ := lexText_ok hm
  have hlen := ttx_len hm
  have hz : ((l[i].1, l[i].2.1, l[i].2.2.1, l[i].2.2.2.1, l[i].2.2.2.2.1, ()) : Tok) = l[i] := rfl
  have hsn := jtx_snoc (l.take i) l[i]
  rw [← List.take_succ_eq_append_getElem h, List.length_take] at hsn
  have hr : roomI 64 (l.take i) [l[i]] = some (l.take (i + 1)) := by
   unfold roomI
   rw [if_pos (by rw [List.length_take]; simp only [List.length_cons, List.length_nil]; omega), List.take_succ_eq_append_getElem h]
  rw [dlt h, cond_true, rdI_nat h, Option.bind_some]
  by_cases hL : 200 < l[i].2.1.length
  ·rw [decide_eq_true (by omega), cond_true, lives_ok]
   exact .inl rfl
  rw [decide_eq_false (by omega), cond_false]
  simp only [rdI_nat h, Option.bind_some, hz, hr, t1, t2, decide_true, Bool.not_true, cond_false]
  refine .inr ⟨((l, l.take (i + 1), jtx (l.take (i + 1)), ((i + 1 : Nat) : Int), ()), ()), ?_, ⟨i + 1, h, rfl, ?_⟩, ?_⟩
  ·by_cases h0 : 0 < i
   ·rw [if_neg (by omega)] at hsn
    rw [decide_eq_true (by omega), cond_true, cat_ok (by simp only [List.length_cons, List.length_nil]; omega), Option.bind_some, cat_ok (by rw [List.length_append]; simp only [List.length_cons, List.length_nil]; omega), Option.bind_some, wi64 (by omega), hsn]
   ·obtain rfl : i = 0 := by omega
    rw [if_pos (by simp)] at hsn
    rw [decide_eq_false (by omega), cond_false, cat_ok (by omega), Option.bind_some, wi64 (by omega), hsn]
    rfl
  ·intro t ht
   rw [List.take_succ_eq_append_getElem h] at ht
   rcases List.mem_append.1 ht with ht | ht
   ·exact h200 t ht
   ·obtain rfl := List.mem_singleton.1 ht
    omega
  ·dsimp only
   omega
 ·obtain rfl : i = l.length := by omega
  rw [List.take_length] at hjl2 ⊢
  rw [dge, cond_false, lexJoin_ok hv (by omega) (by omega), Option.bind_some]
  simp only [decide_true, gtrue, lives_ok, Option.bind_some, cond_true]
  exact .inl rfl

end Go.Proofs.YtkpiocglghnnhaaDoor
