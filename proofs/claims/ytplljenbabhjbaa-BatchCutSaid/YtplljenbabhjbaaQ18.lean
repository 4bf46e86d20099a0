/- The functions of this seat, and the laws as plain Lean. -/
import Derived.Test.YtplljenbabhjbaaQ17

set_option linter.unusedSimpArgs false
set_option linter.unusedVariables false

namespace Go.Proofs.Ytplljenbabhjbaa
open Go Go.Pv Go.Proofs Go.L
set_option maxRecDepth 100000

theorem encU_all : ∀ {l : List Up} {i : Nat}, l.all mayU = true → (encU (l.take i)).length ≤ 500 * i := by
  intro l i h
  have h1 := encU_len (l := l.take i) (all_take h)
  have h2 : (l.take i).length ≤ i := by rw [List.length_take]; omega
  omega

theorem cut_ok {l : List Up} {n : Int} (ho : ∀ u ∈ l, okW u) : law25_BatchCut l n = some ((true, ()), ()) := by
  unfold law25_BatchCut
  obtain ⟨r, e, hr⟩ := light_ok l
  rw [e, Option.bind_some]
  cases r with
  | false =>
    simp only [Bool.not_false, cond_true, lives_ok, Option.bind_some]
  | true =>
    obtain ⟨hl, hs⟩ := hr rfl
    have hU : ∀ u ∈ l, okU u := fun u hu => okU_of (ho u hu) (hs u hu)
    simp only [Bool.not_true, cond_false]
    rw [encode_ok hU (by omega), Option.bind_some]
    by_cases h64 : 64 < l.length
    · rw [if_pos h64]
      simp only [show decide ((2 : Int) = 0) = false from rfl, Bool.not_false, Bool.not_true, gfalse, cond_true, lives_ok, Option.bind_some]
    · rw [if_neg h64]
      cases ha : l.all mayU with
      | false =>
        rw [if_neg (by simp)]
        simp only [show decide ((1 : Int) = 0) = false from rfl, Bool.not_false, Bool.not_true, gfalse, cond_true, lives_ok, Option.bind_some]
      | true =>
        rw [if_pos rfl]
        have hV : ∀ u ∈ l, upV u := fun u hu => ⟨List.all_eq_true.1 ha u hu, ho u hu⟩
        have hB := encB_u8 (by omega) hV
        have hE : be (nat64 (l.length : Int)) 1 ++ encU l = encB l := by rw [be1 (by omega) (by omega)]; rfl
        rw [hE]
        simp only [decide_true, Bool.not_true, Bool.not_false, gtrue, gsome, Option.bind_some, cond_false, cond_true]
        by_cases hn : n < 0 ∨ ((encB l).length : Int) ≤ n
        · have hc : (bif decide (n < 0) then true else bif !decide (n < 0) then decide (n ≥ bif !decide (n < 0) then ((encB l).length : Int) else 0) else false) = true := by
            rcases hn with h | h
            · rw [decide_eq_true h]; rfl
            · by_cases h0 : n < 0
              · rw [decide_eq_true h0]; rfl
              · rw [decide_eq_false h0, Bool.not_false, cond_true, cond_true, decide_eq_true h]; rfl
          simp only [hc, cond_true, lives_ok, Option.bind_some]
        · have hc : (bif decide (n < 0) then true else bif !decide (n < 0) then decide (n ≥ bif !decide (n < 0) then ((encB l).length : Int) else 0) else false) = false := by
            rw [decide_eq_false (show ¬ n < 0 by omega), Bool.not_false, cond_true, cond_true, decide_eq_false (by omega)]; rfl
          rw [hc, cond_false]
          obtain ⟨m, rfl⟩ : ∃ m : Nat, n = (m : Int) := ⟨n.toNat, by omega⟩
          have hm : m < (encB l).length := by omega
          rw [sub_lo (by omega), Option.bind_some]
          have hb : okB ((encB l).take m) := ⟨fun v hv => hB.u8 v (List.mem_of_mem_take hv), by rw [List.length_take]; have := hB.len; omega⟩
          obtain ⟨p, c1, c2, c3⟩ := pre_cut hb (by omega) hV hm
          have hF : endF ((encB l).take m) (preU ((encB l).take m)).2 = some (3, (p : Int), ()) := by
            unfold endF
            rw [c1]
          have hw := why_end (b := (encB l).take m) (s := (preU ((encB l).take m)).2)
          rw [hF] at hw
          rw [decode_rd hb, Option.bind_some]
          dsimp only
          rw [hw, hF, Option.bind_some, c3, Option.isNone_some, cond_false]
          have hlen := hB.len
          have key := loop_inv (f := fun (z : ((List Up) × Int × (List Up) × Int × Int × Int × Int × Int × Int × Unit) × Unit) => law25_BatchCut_s0 z.1.1 z.1.2.1 z.1.2.2.1 z.1.2.2.2.1 z.1.2.2.2.2.1 z.1.2.2.2.2.2.1 z.1.2.2.2.2.2.2.1 z.1.2.2.2.2.2.2.2.1 z.1.2.2.2.2.2.2.2.2.1)
            (P := fun i x => ∃ (w z : Nat), x = ((l, (m : Int), [], ((whole l (m - 1) : Nat) : Int), 3, (p : Int), (w : Int), (z : Int), (i : Int), ()), ()) ∧ z = 1 + (encU (l.take i)).length ∧ w ≤ i ∧ w + (if z ≤ m then whole (l.drop i) (m - z) else 0) = whole l (m - 1))
            (n := l.length) (r := ((true, ()), ()))
            (by
              rintro i x hi ⟨w, z, rfl, hz, hwi, hk⟩
              have hmem := List.getElem_mem hi
              have hmay : mayU l[i] = true := List.all_eq_true.1 ha _ hmem
              have hd : l.drop i = l[i] :: l.drop (i + 1) := List.drop_eq_getElem_cons hi
              have h1 := encU_all (i := i) ha
              have h2 := bytesU_len hmay
              rw [hd, whole] at hk
              have hz' : z + (bytesU l[i]).length = 1 + (encU (l.take (i + 1))).length := by rw [encU_take hi, List.length_append]; omega
              have hzw : IntKind.i64.wrap ((z : Int) + ((bytesU l[i]).length : Int)) = ((z + (bytesU l[i]).length : Nat) : Int) := by rw [wrap_i64 (by omega) (by omega)]; omega
              have hww : IntKind.i64.wrap ((w : Int) + 1) = ((w + 1 : Nat) : Int) := by rw [wrap_i64 (by omega) (by omega)]; omega
              by_cases hle : z + (bytesU l[i]).length ≤ m
              · refine ⟨_, ?_, w + 1, z + (bytesU l[i]).length, rfl, hz', by omega, ?_⟩
                · dsimp only
                  unfold law25_BatchCut_s0
                  rw [dlt hi, cond_true, rdI_get hi, Option.bind_some, bytes_ok (hU _ hmem) hmay, Option.bind_some]
                  dsimp only
                  rw [hzw, decide_eq_true (by omega), cond_true, hww, wi64 (by omega)]
                · rw [if_pos (by omega), if_pos (by omega)] at hk
                  rw [if_pos hle, ← hk, show m - z - (bytesU l[i]).length = m - (z + (bytesU l[i]).length) by omega]
                  omega
              · refine ⟨_, ?_, w, z + (bytesU l[i]).length, rfl, hz', by omega, ?_⟩
                · dsimp only
                  unfold law25_BatchCut_s0
                  rw [dlt hi, cond_true, rdI_get hi, Option.bind_some, bytes_ok (hU _ hmem) hmay, Option.bind_some]
                  dsimp only
                  rw [hzw, decide_eq_false (by omega), cond_false, wi64 (by omega)]
                · rw [if_neg hle, ← hk]
                  by_cases hzm : z ≤ m
                  · rw [if_pos hzm, if_neg (by omega)]
                  · rw [if_neg hzm])
            (by
              rintro x ⟨w, z, rfl, hz, hwi, hk⟩
              have hk : w = whole l (m - 1) := by
                rw [← hk, List.drop_length]
                split <;> rfl
              dsimp only
              unfold law25_BatchCut_s0
              rw [dge, cond_false, hk]
              simp only [List.length_nil, decide_true, Int.natCast_zero, gtrue, gsome, Option.bind_some, cond_true, decide_eq_true (show (p : Int) ≥ 0 by omega), decide_eq_true (show (p : Int) ≤ (m : Int) by omega), lives_ok, Option.map_some]) l.length 0 ((l, (m : Int), [], ((whole l (m - 1) : Nat) : Int), 3, (p : Int), 0, 1, 0, ()), ()) (by omega) (by omega)
            ⟨0, 1, rfl, rfl, by omega, by
              rw [List.drop_zero, Nat.zero_add]
              by_cases hm1 : 1 ≤ m
              · rw [if_pos hm1]
              · rw [if_neg hm1, show m - 1 = 0 by omega]
                cases l with
                | nil => rfl
                | cons u l =>
                  have := bytesU_pos u
                  rw [whole, if_neg (by omega)]⟩
          exact key

end Go.Proofs.Ytplljenbabhjbaa
