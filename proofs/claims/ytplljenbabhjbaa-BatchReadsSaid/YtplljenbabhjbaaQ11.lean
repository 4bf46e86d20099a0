/- The functions of this seat, and the laws as plain Lean. -/
import Derived.Test.YtplljenbabhjbaaQ10

set_option linter.unusedSimpArgs false
set_option linter.unusedVariables false

namespace Go.Proofs.Ytplljenbabhjbaa
open Go Go.Pv Go.Proofs Go.L
set_option maxRecDepth 100000

theorem ck_get {α : Type} {l : List α} {i : Nat} (h : i < l.length) : Option.map (fun _ => (i : Int)) (ckI (i : Int) l.length) = some (i : Int) := by
  unfold ckI
  rw [if_pos ⟨by omega, by omega⟩]; rfl

theorem reads_ok {b : List Int} (hu : ∀ v ∈ b, inR .u8 v = true) : law25_BatchReads b = some ((true, ()), ()) := by
  unfold law25_BatchReads
  by_cases hlen : (b.length : Int) > 6000
  · rw [decide_eq_true hlen, cond_true, lives_ok]; rfl
  · rw [decide_eq_false hlen, cond_false]
    have hb : okB b := ⟨hu, by omega⟩
    obtain ⟨hS, hL⟩ := pre_small hb
    simp only [decode_rd hb, decode_ref hb, prefix_rd hb, why_end, Option.bind_some, decide_true, Bool.not_true, Bool.not_false, gtrue, gsome, cond_false, cond_true]
    have hsub : ∀ i, i < (bif (endF b (preU b).2).isNone then (preU b).1 else []).length → i < (preU b).1.length ∧ ∀ (h1 : i < (bif (endF b (preU b).2).isNone then (preU b).1 else []).length) (h2 : i < (preU b).1.length), (bif (endF b (preU b).2).isNone then (preU b).1 else [])[i] = (preU b).1[i] := by
      intro i h
      cases hx : (endF b (preU b).2).isNone with
      | true => simp only [hx, cond_true] at h ⊢; exact ⟨h, fun _ _ => trivial⟩
      | false => simp [hx] at h
    have hSw : ∀ u ∈ (bif (endF b (preU b).2).isNone then (preU b).1 else []), okS u := by
      intro u h
      cases hx : (endF b (preU b).2).isNone with
      | true => simp only [hx, cond_true] at h; exact hS u h
      | false => simp [hx] at h
    have hLw : (bif (endF b (preU b).2).isNone then (preU b).1 else []).length ≤ 64 := by
      cases hx : (endF b (preU b).2).isNone with
      | true => simp only [cond_true]; exact hL
      | false => simp
    generalize (bif (endF b (preU b).2).isNone then (preU b).1 else []) = w at *
    generalize (preU b).1 = p at *
    have key2 := loop_up (f := fun (z : ((List Up) × (List Up) × Int × Unit) × Unit) => law25_BatchReads_s2 z.1.1 z.1.2.1 z.1.2.2.1) (fun i => ((w, w, (i : Int), ()), ())) w.length (r := ((true, ()), ()))
      (fun i hi => by
        dsimp only
        unfold law25_BatchReads_s2
        have hr := ref_same_ok (b := w[i]) (hSw _ (List.getElem_mem hi))
        rw [dlt hi, cond_true, ck_get hi, Option.bind_some, rdI_get hi, Option.bind_some, Option.bind_some, rdI_get hi, Option.bind_some, hr, Option.bind_some, same_refl, wi64 (by omega)]
        rfl)
      (by
        dsimp only
        unfold law25_BatchReads_s2
        rw [dge, cond_false, lives_ok]
        rfl) 0 (Nat.zero_le _)
    have key := loop_up (f := fun (z : ((List Up) × (List Up) × (List Up) × Int × Unit) × Unit) => law25_BatchReads_s0 z.1.1 z.1.2.1 z.1.2.2.1 z.1.2.2.2.1) (fun i => ((w, w, p, (i : Int), ()), ())) w.length (r := ((true, ()), ()))
      (fun i hi => by
        dsimp only
        unfold law25_BatchReads_s0
        obtain ⟨hp, he⟩ := hsub i hi
        have hr := ref_same_ok (b := w[i]) (hSw _ (List.getElem_mem hi))
        rw [dlt hi, cond_true, ck_get hp, Option.bind_some, rdI_get hp, Option.bind_some, ck_get hi, Option.bind_some, rdI_get hi, Option.bind_some, ← he hi hp, hr, Option.bind_some, same_refl, wi64 (by omega)]
        rfl)
      (by
        dsimp only
        unfold law25_BatchReads_s0
        rw [dge, cond_false]
        have k2 := key2
        rw [show ((0 : Nat) : Int) = 0 from rfl] at k2
        rw [k2]
        rfl) 0 (Nat.zero_le _)
    exact key

end Go.Proofs.Ytplljenbabhjbaa
