/- SumPieces holds of every input: pieces added one after the other make the checksum of all. -/
import Derived.Test.YtmjappidghjkjaaSb
import Derived.Test.YtmjappidghjkjaaSp
namespace Go.Proofs.Ytmjappidghjkjaa
open Go Go.Pv Go.Proofs

theorem bytes_of {b : List Int} (h : ∀ c ∈ b, Wf u8 c) : Bytes b := by
  intro c hc
  have := (inR_iff .u8 c).1 (h c hc)
  simp [IntKind.min, IntKind.max, IntKind.signed, IntKind.bits] at this
  omega

theorem pcF_ok {p : List (List Int)} (hp : ∀ q ∈ p, q.length ≤ maxLen ∧ Bytes q) : pcF p = some ((true, ()), ()) := by
  unfold pcF
  rw [livesF_ok]
  by_cases h40 : (p.length : Int) > 40
  · rw [decide_eq_true h40]; rfl
  rw [decide_eq_false h40, cond_false]
  obtain ⟨r, hr, rfl⟩ := loopR_inv (f := fun (z : PcS) => pcStep z.1.1 z.1.2.1 z.1.2.2.1 z.2.1)
    (fun z => ∃ (i : Nat) (all : List Int), i ≤ p.length ∧ Bytes all ∧ all.length ≤ 200 * i ∧ z = ((p, all, (i : Int), ()), (((sumB (0, false) all).1, (sumB (0, false) all).2, ()), ())))
    (fun z => ((p.length : Int) - z.1.2.2.1).toNat) (fun r => r = ((true, ()), ()))
    (fun z ⟨i, all, hi, hall, hlen, hz⟩ => by
      subst hz
      simp only
      unfold pcStep
      rw [livesF_ok]
      by_cases hlt : i < p.length
      · obtain ⟨hq, hqb⟩ := hp p[i] (List.getElem_mem hlt)
        rw [show decide ((i : Int) < (p.length : Int)) = true from decide_eq_true (by omega), cond_true, rdI_nat hlt]
        simp only [Option.bind_some]
        by_cases h200 : (p[i].length : Int) > 200
        · left
          exact ⟨_, by rw [decide_eq_true h200]; rfl, rfl⟩
        · right
          have hnew : Bytes (all ++ p[i]) := fun c hc => (List.mem_append.1 hc).elim (hall c) (hqb c)
          have hnl : (all ++ p[i]).length ≤ 200 * (i + 1) := by rw [List.length_append]; omega
          have hsr := sumB_range all (0, false) (by decide) hall
          have hsn := sumB_range (all ++ p[i]) (0, false) (by decide) hnew
          have hadd : addF ((sumB (0, false) all).1, (sumB (0, false) all).2, ()) p[i] = some ((), ((sumB (0, false) (all ++ p[i])).1, (sumB (0, false) (all ++ p[i])).2, ()), ()) := by
            rw [addF_ok hsr hqb hq, sumB_append]
          have hroom : roomI 1 all p[i] = some (all ++ p[i]) := by
            unfold roomI
            rw [if_pos (by rw [List.length_append] at hnl; omega)]
          refine ⟨_, ?_, ⟨i + 1, all ++ p[i], by omega, hnew, hnl, rfl⟩, by simp only; omega⟩
          rw [decide_eq_false h200, cond_false, hadd, hroom]
          simp only [Option.bind_some]
          rw [ofF_ok hnew (by unfold maxLen; omega)]
          simp only [Option.bind_some]
          rw [wrap_u16 hsn.1 (by omega), wrap_u16 (by omega) (by omega), wrap_i64 (by omega) (by omega)]
          have : decide (65535 - (sumB (0, false) (all ++ p[i])).1 = ck (all ++ p[i])) = true := decide_eq_true rfl
          rw [this]
          simp
      · left
        rw [show decide ((i : Int) < (p.length : Int)) = false from decide_eq_false (by omega)]
        exact ⟨_, rfl, rfl⟩)
    (x := ((p, [], 0, ()), ((0, false, ()), ()))) ⟨0, [], by omega, (fun c hc => by cases hc), by simp, by simp [sumB]⟩
  exact hr

end Go.Proofs.Ytmjappidghjkjaa
