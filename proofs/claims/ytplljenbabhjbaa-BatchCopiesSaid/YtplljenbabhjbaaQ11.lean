/- The functions of this seat, and the laws as plain Lean. -/
import Derived.Test.YtplljenbabhjbaaQ10

set_option linter.unusedSimpArgs false
set_option linter.unusedVariables false

namespace Go.Proofs.Ytplljenbabhjbaa
open Go Go.Pv Go.Proofs Go.L
set_option maxRecDepth 100000

theorem lives_ok : law25_lives = some ((true, ()), ()) := by
  unfold law25_lives
  rw [encode_nil, Option.bind_some]
  rfl

/-- its vectors are of fit numbers -/
def okW (u : Up) : Prop := (∀ v ∈ u.2.2.1.1, okV v) ∧ (∀ v ∈ u.2.2.1.2.1, okV v) ∧ ∀ v ∈ u.2.2.1.2.2.2.2.1.2.1, okV v
def small (u : Up) : Prop := u.2.2.2.2.1.length ≤ 300 ∧ u.2.2.1.1.length ≤ 50 ∧ u.2.2.1.2.1.length ≤ 50 ∧ u.2.2.1.2.2.2.2.1.2.1.length ≤ 50

theorem okU_of {u : Up} (h : okW u) (hs : small u) : okU u := by
  obtain ⟨h1, h2, h3⟩ := h
  obtain ⟨k1, k2, k3, k4⟩ := hs
  exact ⟨⟨h1, by omega⟩, ⟨h2, by omega⟩, ⟨h3, by omega⟩, by omega⟩

def smallB (u : Up) : Bool := decide (u.2.2.2.2.1.length ≤ 300) && decide (u.2.2.1.1.length ≤ 50) && decide (u.2.2.1.2.1.length ≤ 50) && decide (u.2.2.1.2.2.2.2.1.2.1.length ≤ 50)

theorem light_ok (l : List Up) : ∃ r, law25_light l = some ((r, ()), ()) ∧ (r = true → l.length ≤ 100 ∧ ∀ u ∈ l, small u) := by
  unfold law25_light
  by_cases hl : (l.length : Int) > 100
  · rw [decide_eq_true hl, cond_true]
    exact ⟨false, rfl, fun h => by cases h⟩
  · rw [decide_eq_false hl, cond_false]
    have key := scan_any (p := fun u => !smallB u) (f := fun (z : ((List Up) × Int × Unit) × Unit) => law25_light_s0 z.1.1 z.1.2.1) l (fun i => ((l, (i : Int), ()), ())) ((false, ()), ()) ((true, ()), ())
      (fun i h => by
        dsimp only
        unfold law25_light_s0
        simp only [dlt h, cond_true, rdI_get h, Option.bind_some, gsome]
        generalize l[i] = u
        unfold smallB
        have d1 : decide ((u.2.2.2.2.1.length : Int) > 300) = !decide (u.2.2.2.2.1.length ≤ 300) := by rw [← decide_not]; exact decide_eq_decide.2 (by omega)
        have d2 : decide ((u.2.2.1.1.length : Int) > 50) = !decide (u.2.2.1.1.length ≤ 50) := by rw [← decide_not]; exact decide_eq_decide.2 (by omega)
        have d3 : decide ((u.2.2.1.2.1.length : Int) > 50) = !decide (u.2.2.1.2.1.length ≤ 50) := by rw [← decide_not]; exact decide_eq_decide.2 (by omega)
        have d4 : decide ((u.2.2.1.2.2.2.2.1.2.1.length : Int) > 50) = !decide (u.2.2.1.2.2.2.2.1.2.1.length ≤ 50) := by rw [← decide_not]; exact decide_eq_decide.2 (by omega)
        have hw := wi64 (show i < 1000000000 by omega)
        rw [d1]
        rcases bor (decide (u.2.2.2.2.1.length ≤ 300)) with h | h <;> simp only [h, cond_true, cond_false, Bool.not_true, Bool.not_false, Bool.false_and, Bool.true_and, d2]
        rcases bor (decide (u.2.2.1.1.length ≤ 50)) with h | h <;> simp only [h, cond_true, cond_false, Bool.not_true, Bool.not_false, Bool.false_and, Bool.true_and, d3]
        rcases bor (decide (u.2.2.1.2.1.length ≤ 50)) with h | h <;> simp only [h, cond_true, cond_false, Bool.not_true, Bool.not_false, Bool.false_and, Bool.true_and, d4]
        rcases bor (decide (u.2.2.1.2.2.2.2.1.2.1.length ≤ 50)) with h | h <;> simp only [h, cond_true, cond_false, Bool.not_true, Bool.not_false, hw])
      (by
        dsimp only
        unfold law25_light_s0
        rw [dge, cond_false])
    cases ha : l.any fun u => !smallB u with
    | true =>
      rw [ha] at key
      exact ⟨false, key, fun h => by cases h⟩
    | false =>
      rw [ha] at key
      refine ⟨true, key, fun _ => ⟨by omega, fun u hu => ?_⟩⟩
      have := List.any_eq_false.1 ha u hu
      simp only [Bool.not_eq_true, Bool.not_eq_false', smallB, Bool.and_eq_true, decide_eq_true_eq] at this
      exact ⟨this.1.1.1, this.1.1.2, this.1.2, this.2⟩

def wantB (u : Up) : List Int := if mayU u = true then bytesU u else []

theorem wantB_len (u : Up) : (wantB u).length ≤ 500 := by
  unfold wantB
  split
  · exact bytesU_len (by assumption)
  · simp

theorem want_len : ∀ l : List Up, (l.flatMap wantB).length ≤ 500 * l.length
  | [] => by simp
  | u :: l => by
    have h1 := wantB_len u
    have h2 := want_len l
    rw [List.flatMap_cons, List.length_append, List.length_cons]
    omega

theorem want_all : ∀ {l : List Up}, l.all mayU = true → l.flatMap wantB = encU l
  | [], _ => rfl
  | u :: l, h => by
    rw [List.all_cons, Bool.and_eq_true] at h
    unfold encU
    rw [List.flatMap_cons, List.flatMap_cons, want_all h.2, wantB, if_pos h.1]; rfl

theorem writes_ok {l : List Up} (ho : ∀ u ∈ l, okW u) : law25_BatchWrites l = some ((true, ()), ()) := by
  unfold law25_BatchWrites
  obtain ⟨r, e, hr⟩ := light_ok l
  rw [e, Option.bind_some]
  cases r with
  | false =>
    simp only [Bool.not_false, cond_true]
    rw [lives_ok]; rfl
  | true =>
    simp only [Bool.not_true, cond_false]
    obtain ⟨hl, hs⟩ := hr rfl
    have hU : ∀ u ∈ l, okU u := fun u hu => okU_of (ho u hu) (hs u hu)
    have key := loop_up (f := fun (z : ((List Up) × (List Int) × Bool × Int × Unit) × Unit) => law25_BatchWrites_s0 z.1.1 z.1.2.1 z.1.2.2.1 z.1.2.2.2.1) (fun i => ((l, IntKind.u8.wrap (l.length : Int) :: (l.take i).flatMap wantB, (l.take i).all mayU, (i : Int), ()), ())) l.length (r := ((true, ()), ()))
      (fun i hi => by
        dsimp only
        unfold law25_BatchWrites_s0
        have hmem := List.getElem_mem hi
        have e1 := ref_may_ok (hU _ hmem)
        have e2 := may_ok (hU _ hmem)
        have ht : l.take (i + 1) = l.take i ++ [l[i]] := by rw [List.take_add_one, List.getElem?_eq_getElem hi]; rfl
        have hf : (l.take (i + 1)).flatMap wantB = (l.take i).flatMap wantB ++ wantB l[i] := by rw [ht, List.flatMap_append]; simp
        have hA : (l.take (i + 1)).all mayU = ((l.take i).all mayU && mayU l[i]) := by rw [ht, List.all_append]; simp
        rw [hf, hA, dlt hi, cond_true, rdI_get hi]
        simp only [Option.bind_some, e1, e2, decide_true, Bool.not_true, cond_false, gsome, wi64 (show i < 1000000000 by omega)]
        have hlen := want_len (l.take i)
        have htl : (l.take i).length ≤ 100 := by rw [List.length_take]; omega
        have hcb : (bif (l.take i).all mayU then mayU l[i] else false) = ((l.take i).all mayU && mayU l[i]) := cb _ _
        rw [hcb]
        unfold wantB
        cases hm : mayU l[i] with
        | false => simp
        | true =>
          have hb := bytesU_len hm
          simp only [cond_true, bytes_ok (hU _ hmem) hm, Option.bind_some, if_true]
          rw [roomI_ok (by rw [List.length_cons]; unfold wantB at hlen; omega), Option.bind_some]
          rfl)
      (by
        dsimp only
        unfold law25_BatchWrites_s0
        rw [dge, cond_false, encode_ok hU (by omega), Option.bind_some, List.take_length]
        by_cases h64 : 64 < l.length
        · simp only [if_pos h64, decide_eq_true (show (l.length : Int) > 64 by omega), cond_true, List.length_nil, decide_true, gsome, gtrue, lives_ok, Option.bind_some]
          rfl
        · simp only [if_neg h64, decide_eq_false (show ¬ (l.length : Int) > 64 by omega), cond_false]
          cases ha : l.all mayU with
          | false =>
            simp only [Bool.not_false, cond_true, Bool.false_eq_true, if_false, List.length_nil, decide_true, gsome, gtrue, lives_ok, Option.bind_some]
            rfl
          | true =>
            simp only [Bool.not_true, cond_false, if_true, be_one, List.singleton_append, want_all ha, decide_true, gsome, cond_true, gtrue, lives_ok, Option.bind_some, Option.map_some]) 0 (Nat.zero_le _)
    refine Eq.trans ?_ key
    simp only [List.take_zero, List.flatMap_nil, List.all_nil]
    rfl

/-- what the kit says of an update that came in -/
theorem okW_of {u : Up} (h : Wf (.pair (.int .i64) (.pair (.int .i64) (.pair (.agg (.pair (.slice (.agg (.pair (.int .i64) (.pair (.int .u64) (.pair (.int .u64) .unit))))) (.pair (.slice (.agg (.pair (.int .i64) (.pair (.int .u64) (.pair (.int .u64) .unit))))) (.pair (.int .i64) (.pair (.int .i64) (.pair (.agg (.pair (.int .i64) (.pair (.slice (.agg (.pair (.int .i64) (.pair (.int .u64) (.pair (.int .u64) .unit))))) .unit))) .unit)))))) (.pair (.int .i64) (.pair (.slice (.int .i64)) .unit))))) u) : okW u :=
  ⟨fun v hv => ⟨(h.2.2.1.1.2 v hv).2.1, (h.2.2.1.1.2 v hv).2.2.1⟩, fun v hv => ⟨(h.2.2.1.2.1.2 v hv).2.1, (h.2.2.1.2.1.2 v hv).2.2.1⟩, fun v hv => ⟨(h.2.2.1.2.2.2.2.1.2.1.2 v hv).2.1, (h.2.2.1.2.2.2.2.1.2.1.2 v hv).2.2.1⟩⟩

end Go.Proofs.Ytplljenbabhjbaa
