/- The functions of this seat, and the laws as plain Lean. -/
import Derived.Test.YtplljenbabhjbaaQ9

set_option linter.unusedSimpArgs false
set_option linter.unusedVariables false

namespace Go.Proofs.Ytplljenbabhjbaa
open Go Go.Pv Go.Proofs Go.L
set_option maxRecDepth 100000

theorem lives_ok : law25_lives = some ((true, ()), ()) := by
  unfold law25_lives
  rw [encode_nil, Option.bind_some]
  rfl

/-- its vectors are of fit numbers -/
def okW (u : Up) : Prop := (∀ v ∈ u.2.2.1.1, okV v) ∧ (∀ v ∈ u.2.2.1.2.1, okV v) ∧ ∀ v ∈ u.2.2.1.2.2.2.2.1.2.1, okV v
def small (u : Up) : Prop := u.2.2.2.2.1.length ≤ 300 ∧ u.2.2.1.1.length ≤ 50 ∧ u.2.2.1.2.1.length ≤ 50 ∧ u.2.2.1.2.2.2.2.1.2.1.length ≤ 50

theorem okU_of {u : Up} (h : okW u) (hs : small u) : okU u := by
  obtain ⟨h1, h2, h3⟩ := h
  obtain ⟨k1, k2, k3, k4⟩ := hs
  exact ⟨⟨h1, by omega⟩, ⟨h2, by omega⟩, ⟨h3, by omega⟩, by omega⟩

def smallB (u : Up) : Bool := decide (u.2.2.2.2.1.length ≤ 300) && decide (u.2.2.1.1.length ≤ 50) && decide (u.2.2.1.2.1.length ≤ 50) && decide (u.2.2.1.2.2.2.2.1.2.1.length ≤ 50)

theorem light_ok (l : List Up) : ∃ r, law25_light l = some ((r, ()), ()) ∧ (r = true → l.length ≤ 100 ∧ ∀ u ∈ l, small u) := by
  unfold law25_light
  by_cases hl : (l.length : Int) > 100
  · rw [decide_eq_true hl, cond_true]
    exact ⟨false, rfl, fun h => by cases h⟩
  · rw [decide_eq_false hl, cond_false]
    have key := scan_any (p := fun u => !smallB u) (f := fun (z : ((List Up) × Int × Unit) × Unit) => law25_light_s0 z.1.1 z.1.2.1) l (fun i => ((l, (i : Int), ()), ())) ((false, ()), ()) ((true, ()), ())
      (fun i h => by
        dsimp only
        unfold law25_light_s0
        simp only [dlt h, cond_true, rdI_get h, Option.bind_some, gsome]
        generalize l[i] = u
        unfold smallB
        have d1 : decide ((u.2.2.2.2.1.length : Int) > 300) = !decide (u.2.2.2.2.1.length ≤ 300) := by rw [← decide_not]; exact decide_eq_decide.2 (by omega)
        have d2 : decide ((u.2.2.1.1.length : Int) > 50) = !decide (u.2.2.1.1.length ≤ 50) := by rw [← decide_not]; exact decide_eq_decide.2 (by omega)
        have d3 : decide ((u.2.2.1.2.1.length : Int) > 50) = !decide (u.2.2.1.2.1.length ≤ 50) := by rw [← decide_not]; exact decide_eq_decide.2 (by omega)
        have d4 : decide ((u.2.2.1.2.2.2.2.1.2.1.length : Int) > 50) = !decide (u.2.2.1.2.2.2.2.1.2.1.length ≤ 50) := by rw [← decide_not]; exact decide_eq_decide.2 (by omega)
        have hw := wi64 (show i < 1000000000 by omega)
        rw [d1]
        rcases bor (decide (u.2.2.2.2.1.length ≤ 300)) with h | h <;> simp only [h, cond_true, cond_false, Bool.not_true, Bool.not_false, Bool.false_and, Bool.true_and, d2]
        rcases bor (decide (u.2.2.1.1.length ≤ 50)) with h | h <;> simp only [h, cond_true, cond_false, Bool.not_true, Bool.not_false, Bool.false_and, Bool.true_and, d3]
        rcases bor (decide (u.2.2.1.2.1.length ≤ 50)) with h | h <;> simp only [h, cond_true, cond_false, Bool.not_true, Bool.not_false, Bool.false_and, Bool.true_and, d4]
        rcases bor (decide (u.2.2.1.2.2.2.2.1.2.1.length ≤ 50)) with h | h <;> simp only [h, cond_true, cond_false, Bool.not_true, Bool.not_false, hw])
      (by
        dsimp only
        unfold law25_light_s0
        rw [dge, cond_false])
    cases ha : l.any fun u => !smallB u with
    | true =>
      rw [ha] at key
      exact ⟨false, key, fun h => by cases h⟩
    | false =>
      rw [ha] at key
      refine ⟨true, key, fun _ => ⟨by omega, fun u hu => ?_⟩⟩
      have := List.any_eq_false.1 ha u hu
      simp only [Bool.not_eq_true, Bool.not_eq_false', smallB, Bool.and_eq_true, decide_eq_true_eq] at this
      exact ⟨this.1.1.1, this.1.1.2, this.1.2, this.2⟩

/-- what the kit says of an update that came in -/
theorem okW_of {u : Up} (h : Wf (.pair (.int .i64) (.pair (.int .i64) (.pair (.agg (.pair (.slice (.agg (.pair (.int .i64) (.pair (.int .u64) (.pair (.int .u64) .unit))))) (.pair (.slice (.agg (.pair (.int .i64) (.pair (.int .u64) (.pair (.int .u64) .unit))))) (.pair (.int .i64) (.pair (.int .i64) (.pair (.agg (.pair (.int .i64) (.pair (.slice (.agg (.pair (.int .i64) (.pair (.int .u64) (.pair (.int .u64) .unit))))) .unit))) .unit)))))) (.pair (.int .i64) (.pair (.slice (.int .i64)) .unit))))) u) : okW u :=
  ⟨fun v hv => ⟨(h.2.2.1.1.2 v hv).2.1, (h.2.2.1.1.2 v hv).2.2.1⟩, fun v hv => ⟨(h.2.2.1.2.1.2 v hv).2.1, (h.2.2.1.2.1.2 v hv).2.2.1⟩, fun v hv => ⟨(h.2.2.1.2.2.2.2.1.2.1.2 v hv).2.1, (h.2.2.1.2.2.2.2.1.2.1.2 v hv).2.2.1⟩⟩

end Go.Proofs.Ytplljenbabhjbaa
