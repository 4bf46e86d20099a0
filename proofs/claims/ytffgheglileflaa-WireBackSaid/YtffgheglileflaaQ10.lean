/- The functions of this seat, and the laws as plain Lean. -/
import Derived.Test.YtffgheglileflaaQ9

set_option linter.unusedSimpArgs false
set_option linter.unusedVariables false

namespace Go.Proofs.Ytffgheglileflaa
open Go Go.Pv Go.Proofs Go.L
set_option maxRecDepth 100000

abbrev Op := Int × Int × Int × Int × (Int × Int × Int × Unit) × (List Int) × (List (Int × Int × Int × Unit)) × (List Int) × Unit

theorem lives_ok : law07_lives = some ((true, ()), ()) := by
  unfold law07_lives
  have hx : (2748 : Nat) < 340282366920938463463374607431768211456 := by omega
  have := wire_Vec_ok (b := []) (w := 12) (x := 2748) (by simp) hx
  have e : ((12, 0, 2748, ()) : Int × Int × Int × Unit) = vw 12 2748 := by decide
  have e2 : enc 12 2748 = [12, 10, 188] := by
    unfold enc
    have hb : bitLen 2748 = 12 := by
      refine bitLen_of (by decide) (.inr (by decide))
    have hm : may 12 2748 = true := by
      unfold may
      rw [hb]
      decide
    rw [hm]
    decide
  rw [e, this, Option.bind_some, e2]
  rfl

def small (o : Op) : Prop := o.2.2.2.2.2.1.length ≤ 600 ∧ o.2.2.2.2.2.2.1.length ≤ 300 ∧ o.2.2.2.2.2.2.2.1.length ≤ 300

theorem light_ok (ops : List Op) : ∃ r, law07_light ops = some ((r, ()), ()) ∧ (r = true → ops.length ≤ 30 ∧ ∀ o ∈ ops, small o) := by
  unfold law07_light
  by_cases hl : (ops.length : Int) > 30
  · rw [decide_eq_true hl, cond_true]
    exact ⟨false, rfl, fun h => by cases h⟩
  · rw [decide_eq_false hl, cond_false]
    have main : ∀ k i : Nat, ops.length - i = k → i ≤ ops.length → ∃ r, loopR (fun (z : ((List Op) × Int × Unit) × (Unit)) => law07_light_s0 z.1.1 z.1.2.1) ((ops, (i : Int), ()), ()) = some ((r, ()), ()) ∧ (r = true → ∀ j, i ≤ j → j < ops.length → small (ops.getD j (0, 0, 0, 0, (0, 0, 0, ()), [], [], [], ()))) := by
      intro k
      induction k with
      | zero =>
        intro i hk hi
        refine ⟨true, loopR_out ?_, fun _ j h1 h2 => by omega⟩
        dsimp only
        unfold law07_light_s0
        rw [decide_eq_false (show ¬ (i : Int) < (ops.length : Int) by omega), cond_false]
      | succ k ih =>
        intro i hk hi
        have hil : i < ops.length := by omega
        by_cases hs : small (ops.getD i (0, 0, 0, 0, (0, 0, 0, ()), [], [], [], ()))
        · obtain ⟨r, e, h⟩ := ih (i + 1) (by omega) (by omega)
          refine ⟨r, loopR_on ?_ e, fun hr j h1 h2 => ?_⟩
          · dsimp only
            unfold law07_light_s0
            rw [decide_eq_true (show (i : Int) < (ops.length : Int) by omega), cond_true, rd_getD' (0, 0, 0, 0, (0, 0, 0, ()), [], [], [], ()) hil, Option.bind_some]
            obtain ⟨h1, h2, h3⟩ := hs
            generalize ops.getD i (0, 0, 0, 0, (0, 0, 0, ()), [], [], [], ()) = o at h1 h2 h3
            simp only [gsome, decide_eq_false (show ¬ (o.2.2.2.2.2.2.1.length : Int) > 300 by omega), Bool.not_false, gtrue, Option.bind_some, cond_true, cond_false, decide_eq_false (show ¬ (o.2.2.2.2.2.2.2.1.length : Int) > 300 by omega), decide_eq_false (show ¬ (o.2.2.2.2.2.1.length : Int) > 600 by omega), wi64 (show i < 1000000000 by omega)]
          · by_cases e : j = i
            · subst e; exact hs
            · exact h hr j (by omega) h2
        · refine ⟨false, loopR_out ?_, fun h => by cases h⟩
          dsimp only
          unfold law07_light_s0
          rw [decide_eq_true (show (i : Int) < (ops.length : Int) by omega), cond_true, rd_getD' (0, 0, 0, 0, (0, 0, 0, ()), [], [], [], ()) hil, Option.bind_some]
          unfold small at hs
          generalize ops.getD i (0, 0, 0, 0, (0, 0, 0, ()), [], [], [], ()) = o at hs
          by_cases h2 : (o.2.2.2.2.2.2.1.length : Int) > 300
          · simp only [gsome, decide_eq_true h2, Bool.not_true, gfalse, cond_true, cond_false]
          · by_cases h3 : (o.2.2.2.2.2.2.2.1.length : Int) > 300
            · simp only [gsome, decide_eq_false h2, Bool.not_false, gtrue, Option.bind_some, cond_true, cond_false, decide_eq_true h3, Bool.not_true, gfalse]
            · have h4 : (o.2.2.2.2.2.1.length : Int) > 600 := by
                refine Classical.byContradiction fun h4 => hs ⟨by omega, by omega, by omega⟩
              simp only [gsome, decide_eq_false h2, Bool.not_false, gtrue, Option.bind_some, cond_true, cond_false, decide_eq_false h3, decide_eq_true h4]
    obtain ⟨r, e, h⟩ := main ops.length 0 (by omega) (by omega)
    refine ⟨r, e, fun hr => ⟨by omega, fun o ho => ?_⟩⟩
    obtain ⟨j, hj, rfl⟩ := List.getElem_of_mem ho
    have := h hr j (by omega) hj
    simp only [List.getD, List.getElem?_eq_getElem hj, Option.getD_some] at this
    exact this

end Go.Proofs.Ytffgheglileflaa
