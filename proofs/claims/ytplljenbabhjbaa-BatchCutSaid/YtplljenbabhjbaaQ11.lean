/- The functions that the statements reach as plain Lean, and what they compute. -/
import Derived.Test.YtplljenbabhjbaaQ10

set_option linter.unusedSimpArgs false
set_option linter.unusedVariables false

namespace Go.L
open Go Go.Pv
set_option maxRecDepth 100000

theorem zip_any {α : Type} [DecidableEq α] : ∀ (l l' : List α), l.length = l'.length → ((l.zip l').any fun q => !decide (q.1 = q.2)) = !decide (l = l')
  | [], [], _ => by simp
  | [], b :: l', h => by simp at h
  | a :: l, [], h => by simp at h
  | a :: l, b :: l', h => by
    have ih := zip_any l l' (by simpa using h)
    rw [List.zip_cons_cons, List.any_cons, ih]
    by_cases e1 : a = b
    · by_cases e2 : l = l'
      · simp [e1, e2]
      · simp [e1, e2]
    · simp [e1]

theorem v4eq (v w : V4) : (decide (v.1 = w.1) && (decide (v.2.1 = w.2.1) && decide (v.2.2.1 = w.2.2.1))) = decide (v = w) := by
  obtain ⟨a, b, c, _⟩ := v
  obtain ⟨a', b', c', _⟩ := w
  simp only [Prod.mk.injEq, Bool.decide_and, and_true]

theorem lenI {α β : Type} (l : List α) (l' : List β) : decide ((l.length : Int) = (l'.length : Int)) = decide (l.length = l'.length) := decide_eq_decide.2 (by omega)

theorem equal_vec {l l' : List V4} (hl : l.length ≤ 1000000) : slices_Equal_api_Vec_api_Vec l l' = some ((decide (l = l'), ()), ()) := by
  unfold slices_Equal_api_Vec_api_Vec
  rw [lenI]
  by_cases h : l.length = l'.length
  · have hz : (l.zip l').length = l.length := by rw [List.length_zip]; omega
    rw [decide_eq_true h, Bool.not_true, cond_false]
    have key := scan_any (p := fun q => !decide (q.1 = q.2)) (f := fun (z : ((List V4) × (List V4) × Int × Int × Unit) × Unit) => slices_Equal_api_Vec_api_Vec_s0 z.1.1 z.1.2.1 z.1.2.2.1 z.1.2.2.2.1) (l.zip l') (fun i => ((l, l', (l.length : Int), (i : Int), ()), ())) ((false, ()), ()) ((true, ()), ())
      (fun i hi => by
        dsimp only
        unfold slices_Equal_api_Vec_api_Vec_s0
        rw [dlt (show i < l.length by omega), cond_true, rdI_get (show i < l.length by omega), Option.bind_some, rdI_get (show i < l'.length by omega), Option.bind_some, v4eq, List.getElem_zip, wi64 (by omega)])
      (by
        dsimp only
        unfold slices_Equal_api_Vec_api_Vec_s0
        rw [hz, dge, cond_false])
    refine Eq.trans key ?_
    rw [zip_any l l' h]
    cases decide (l = l') <;> rfl
  · rw [decide_eq_false h, Bool.not_false, cond_true, decide_eq_false (fun e => h (by rw [e]))]

theorem equal_int {l l' : List Int} (hl : l.length ≤ 1000000) : slices_Equal_int_int l l' = some ((decide (l = l'), ()), ()) := by
  unfold slices_Equal_int_int
  rw [lenI]
  by_cases h : l.length = l'.length
  · have hz : (l.zip l').length = l.length := by rw [List.length_zip]; omega
    rw [decide_eq_true h, Bool.not_true, cond_false]
    have key := scan_any (p := fun q => !decide (q.1 = q.2)) (f := fun (z : ((List Int) × (List Int) × Int × Int × Unit) × Unit) => slices_Equal_int_int_s0 z.1.1 z.1.2.1 z.1.2.2.1 z.1.2.2.2.1) (l.zip l') (fun i => ((l, l', (l.length : Int), (i : Int), ()), ())) ((false, ()), ()) ((true, ()), ())
      (fun i hi => by
        dsimp only
        unfold slices_Equal_int_int_s0
        rw [dlt (show i < l.length by omega), cond_true, rdI_get (show i < l.length by omega), Option.bind_some, rdI_get (show i < l'.length by omega), Option.bind_some, List.getElem_zip, wi64 (by omega)])
      (by
        dsimp only
        unfold slices_Equal_int_int_s0
        rw [hz, dge, cond_false])
    refine Eq.trans key ?_
    rw [zip_any l l' h]
    cases decide (l = l') <;> rfl
  · rw [decide_eq_false h, Bool.not_false, cond_true, decide_eq_false (fun e => h (by rw [e]))]

/-- are two updates the same? -/
def sameU (a b : Up) : Bool := decide (a.2.2.1.1 = b.2.2.1.1) && decide (a.2.2.1.2.1 = b.2.2.1.2.1) && decide (a.2.2.1.2.2.1 = b.2.2.1.2.2.1) && decide (a.2.2.1.2.2.2.1 = b.2.2.1.2.2.2.1) && decide (a.1 = b.1) && decide (a.2.1 = b.2.1) &&
    decide (a.2.2.1.2.2.2.2.1.1 = b.2.2.1.2.2.2.2.1.1) && decide (a.2.2.1.2.2.2.2.1.2.1 = b.2.2.1.2.2.2.2.1.2.1) && decide (a.2.2.2.1 = b.2.2.2.1) && decide (a.2.2.2.2.1 = b.2.2.2.2.1)

def okS (u : Up) : Prop := u.2.2.1.1.length ≤ 1000 ∧ u.2.2.1.2.1.length ≤ 1000 ∧ u.2.2.1.2.2.2.2.1.2.1.length ≤ 1000 ∧ u.2.2.2.2.1.length ≤ 1000

theorem same_ok {a b : Up} (h : okS a) : batch_Same a b = some ((sameU a b, ()), ()) := by
  obtain ⟨l1, l2, l3, l4⟩ := h
  unfold batch_Same sameU
  rw [equal_vec (by omega), Option.bind_some]
  dsimp only
  rcases bor (decide (a.2.2.1.1 = b.2.2.1.1)) with h | h <;> simp only [h, gfalse, gtrue, gsome, cond_false, cond_true, equal_vec (show a.2.2.1.2.1.length ≤ 1000000 by omega), Option.bind_some, Bool.false_and, Bool.true_and, Bool.and_false, Bool.and_true]
  · rcases bor (decide (a.1 = b.1)) with h | h <;> simp only [h, gfalse, gtrue, gsome, cond_false, cond_true]
    rcases bor (decide (a.2.1 = b.2.1)) with h | h <;> simp only [h, gfalse, gtrue, gsome, cond_false, cond_true]
  rcases bor (decide (a.2.2.1.2.1 = b.2.2.1.2.1)) with h | h <;> simp only [h, gfalse, gtrue, gsome, cond_false, cond_true, Option.bind_some, Bool.false_and, Bool.true_and, Bool.and_false, Bool.and_true]
  · rcases bor (decide (a.1 = b.1)) with h | h <;> simp only [h, gfalse, gtrue, gsome, cond_false, cond_true]
    rcases bor (decide (a.2.1 = b.2.1)) with h | h <;> simp only [h, gfalse, gtrue, gsome, cond_false, cond_true]
  rcases bor (decide (a.2.2.1.2.2.1 = b.2.2.1.2.2.1)) with h | h <;> simp only [h, gfalse, gtrue, gsome, cond_false, cond_true, Option.bind_some, Bool.false_and, Bool.true_and, Bool.and_false, Bool.and_true]
  · rcases bor (decide (a.1 = b.1)) with h | h <;> simp only [h, gfalse, gtrue, gsome, cond_false, cond_true]
    rcases bor (decide (a.2.1 = b.2.1)) with h | h <;> simp only [h, gfalse, gtrue, gsome, cond_false, cond_true]
  rcases bor (decide (a.2.2.1.2.2.2.1 = b.2.2.1.2.2.2.1)) with h | h <;> simp only [h, gfalse, gtrue, gsome, cond_false, cond_true, Option.bind_some, Bool.false_and, Bool.true_and, Bool.and_false, Bool.and_true]
  · rcases bor (decide (a.1 = b.1)) with h | h <;> simp only [h, gfalse, gtrue, gsome, cond_false, cond_true]
    rcases bor (decide (a.2.1 = b.2.1)) with h | h <;> simp only [h, gfalse, gtrue, gsome, cond_false, cond_true]
  rcases bor (decide (a.1 = b.1)) with h | h <;> simp only [h, gfalse, gtrue, gsome, cond_false, cond_true, Option.bind_some, Bool.false_and, Bool.true_and, Bool.and_false, Bool.and_true]
  rcases bor (decide (a.2.1 = b.2.1)) with h | h <;> simp only [h, gfalse, gtrue, gsome, cond_false, cond_true, Option.bind_some, Bool.false_and, Bool.true_and, Bool.and_false, Bool.and_true]
  have hs : batch_same (a.2.2.1.2.2.2.2.1.1, a.2.2.1.2.2.2.2.1.2.1, ()) (b.2.2.1.2.2.2.2.1.1, b.2.2.1.2.2.2.2.1.2.1, ()) = some ((decide (a.2.2.1.2.2.2.2.1.1 = b.2.2.1.2.2.2.2.1.1) && decide (a.2.2.1.2.2.2.2.1.2.1 = b.2.2.1.2.2.2.2.1.2.1), ()), ()) := by
    unfold batch_same
    dsimp only
    rcases bor (decide (a.2.2.1.2.2.2.2.1.1 = b.2.2.1.2.2.2.2.1.1)) with h | h <;> simp only [h, gfalse, gtrue, gsome, cond_false, cond_true, equal_vec (show a.2.2.1.2.2.2.2.1.2.1.length ≤ 1000000 by omega), Option.bind_some, Bool.false_and, Bool.true_and]
  rw [hs]
  simp only [Option.bind_some]
  rcases bor (decide (a.2.2.1.2.2.2.2.1.1 = b.2.2.1.2.2.2.2.1.1)) with h | h <;> simp only [h, gfalse, gtrue, gsome, cond_false, cond_true, Option.bind_some, Bool.false_and, Bool.true_and, Bool.and_false, Bool.and_true]
  rcases bor (decide (a.2.2.1.2.2.2.2.1.2.1 = b.2.2.1.2.2.2.2.1.2.1)) with h | h <;> simp only [h, gfalse, gtrue, gsome, cond_false, cond_true, Option.bind_some, Bool.false_and, Bool.true_and, Bool.and_false, Bool.and_true]
  rcases bor (decide (a.2.2.2.1 = b.2.2.2.1)) with h | h <;> simp only [h, gfalse, gtrue, gsome, cond_false, cond_true, equal_int (show a.2.2.2.2.1.length ≤ 1000000 by omega), Option.bind_some, Bool.false_and, Bool.true_and, Bool.and_false, Bool.and_true]

end Go.L
