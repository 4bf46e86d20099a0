/- The functions of this seat, and the laws as plain Lean. -/
import Derived.Test.YtplljenbabhjbaaQ15

set_option linter.unusedSimpArgs false
set_option linter.unusedVariables false

namespace Go.Proofs.Ytplljenbabhjbaa
open Go Go.Pv Go.Proofs Go.L
set_option maxRecDepth 100000

theorem encB_u8 {l : List Up} (hn : l.length ≤ 64) (hV : ∀ u ∈ l, upV u) : okB (encB l) := by
  have hlen := encU_len (l := l) (List.all_eq_true.2 fun u hu => (hV u hu).1)
  refine ⟨?_, ?_⟩
  · intro v hv
    rcases List.mem_append.1 hv with h | h
    · rw [List.mem_singleton.1 h]
      simp [inR, IntKind.min, IntKind.max, IntKind.signed, IntKind.bits]; omega
    · exact encU_u8 v h
  · unfold encB
    rw [List.length_append, List.length_singleton]
    omega

theorem lives_of {b : Bool} (h : b = true) : (guardR b law25_lives ((false, ()), ()) fun r => some (((bif b then r.1.1 else false), ()), ())) = some ((true, ()), ()) := by
  rw [h, gtrue, lives_ok]; rfl

theorem back_tail {l : List Up} (ho : ∀ u ∈ l, okW u) (hl : l.length ≤ 100) (hs : ∀ u ∈ l, small u) :
    ((batch_Encode l).bind fun r_38 =>
  bif (!decide (r_38.1.2.1 = 0)) then
    let t62_41 : Bool := decide ((r_38.1.1.length : Int) = 0)
    guardR t62_41 law25_lives ((false, ()), ()) fun r_42 =>
    some (((bif t62_41 then r_42.1.1 else false), ()), ())
  else
  (batch_Decode r_38.1.1).bind fun r_44 =>
  let t73_45 : Bool := !(isNil1 r_44.1.2.2.1)
  guardR (!t73_45) (some ()) () fun _ =>
  guardR (!t73_45) (some ()) () fun _ =>
  guardR (!t73_45) (some (l.length : Int)) 0 fun v_46 =>
  guardR (!t73_45) (some (!decide (r_44.1.2.1 = v_46))) false fun v_47 =>
  let t79_48 : Bool := bif t73_45 then true else v_47
  guardR (!t79_48) (some ()) () fun _ =>
  guardR (!t79_48) (some (r_44.1.1.length : Int)) 0 fun v_49 =>
  guardR (!t79_48) (some ()) () fun _ =>
  guardR (!t79_48) (some (l.length : Int)) 0 fun v_50 =>
  guardR (!t79_48) (some (!decide (v_49 = v_50))) false fun v_51 =>
  bif (bif t79_48 then true else v_51) then
    some ((false, ()), ())
  else
  loopR (fun (z : ((List (Int × Int × ((List (Int × Int × Int × Unit)) × (List (Int × Int × Int × Unit)) × Int × Int × (Int × (List (Int × Int × Int × Unit)) × Unit) × Unit) × Int × (List Int) × Unit)) × (List (Int × Int × ((List (Int × Int × Int × Unit)) × (List (Int × Int × Int × Unit)) × Int × Int × (Int × (List (Int × Int × Int × Unit)) × Unit) × Unit) × Int × (List Int) × Unit)) × Int × Unit) × (Unit)) => law25_BatchBack_s0 z.1.1 z.1.2.1 z.1.2.2.1) ((l, r_44.1.1, 0, ()), ())) = some ((true, ()), ()) := by
  have hU : ∀ u ∈ l, okU u := fun u hu => okU_of (ho u hu) (hs u hu)
  rw [encode_ok hU (by omega), Option.bind_some]
  by_cases h64 : 64 < l.length
  · rw [if_pos h64]
    exact lives_of rfl
  · rw [if_neg h64]
    cases ha : l.all mayU with
    | false =>
      rw [if_neg (by simp)]
      exact lives_of rfl
    | true =>
      rw [if_pos rfl]
      have hV : ∀ u ∈ l, upV u := fun u hu => ⟨List.all_eq_true.1 ha u hu, ho u hu⟩
      have hb := encB_u8 (by omega) hV
      have hp := pre_enc hb (by omega) hV
      have hE : be (nat64 (l.length : Int)) 1 ++ encU l = encB l := by rw [be1 (by omega) (by omega)]; rfl
      rw [hE]
      have hd := decode_rd hb
      have hF : endF (encB l) ((encB l).length, none) = none := by
        unfold endF
        dsimp only
        rw [if_neg (by omega)]
      have hS : endS (encB l) ((encB l).length, none) = .inr () := by
        unfold endS
        rw [hF]
      rw [hp] at hd
      dsimp only at hd
      rw [hF, hS] at hd
      simp only [decide_true, Bool.not_true, cond_false, hd, Option.bind_some, Option.isNone_none, cond_true, isNil1, Bool.not_false, gtrue, gsome]
      have key := loop_up (f := fun (z : ((List Up) × (List Up) × Int × Unit) × Unit) => law25_BatchBack_s0 z.1.1 z.1.2.1 z.1.2.2.1) (fun i => ((l, l, (i : Int), ()), ())) l.length (r := ((true, ()), ()))
        (fun i hi => by
          dsimp only
          unfold law25_BatchBack_s0
          have hr := same_ok (b := l[i]) (okS_of (hs _ (List.getElem_mem hi)))
          rw [dlt hi, cond_true, ck_get hi, Option.bind_some, rdI_get hi, Option.bind_some, Option.bind_some, hr, Option.bind_some, same_self, wi64 (by omega)]
          rfl)
        (by
          dsimp only
          unfold law25_BatchBack_s0
          rw [dge, cond_false, lives_ok]
          rfl) 0 (Nat.zero_le _)
      exact key

theorem back_ok {l : List Up} {b : List Int} (ho : ∀ u ∈ l, okW u) (hu : ∀ v ∈ b, inR .u8 v = true) : law25_BatchBack l b = some ((true, ()), ()) := by
  unfold law25_BatchBack
  obtain ⟨r, e, hr⟩ := light_ok l
  rw [e, Option.bind_some]
  cases r with
  | false =>
    simp only [Bool.not_false, Bool.not_true, gfalse, cond_true, lives_ok, Option.bind_some]
  | true =>
    obtain ⟨hl, hs⟩ := hr rfl
    have ht := back_tail ho hl hs
    simp only [Bool.not_true, Bool.not_false, gtrue, Option.bind_some, cond_false]
    by_cases hlen : (b.length : Int) > 6000
    · rw [decide_eq_true hlen, cond_true, lives_ok]; rfl
    · rw [decide_eq_false hlen, cond_false]
      have hb : okB b := ⟨hu, by omega⟩
      rw [decode_rd hb, Option.bind_some]
      dsimp only
      rw [nil_end]
      cases hF : endF b (preU b).2 with
      | some f =>
        rw [Option.isNone_some, cond_false]
        exact ht
      | none =>
        rw [Option.isNone_none, cond_true, cond_true]
        obtain ⟨d1, d2, d3⟩ := pre_dec hb hF
        have hS := (pre_small hb).1
        have hU : ∀ u ∈ (preU b).1, okU u := fun u hu => ⟨⟨(d2 u hu).2.1, (hS u hu).1⟩, ⟨(d2 u hu).2.2.1, (hS u hu).2.1⟩, ⟨(d2 u hu).2.2.2, (hS u hu).2.2.1⟩, (hS u hu).2.2.2⟩
        have ha : (preU b).1.all mayU = true := List.all_eq_true.2 fun u hu => (d2 u hu).1
        have hE : be (nat64 ((preU b).1.length : Int)) 1 ++ encU (preU b).1 = b := by rw [be1 (by omega) (by omega)]; exact d3
        rw [encode_ok hU (by omega), Option.bind_some, if_neg (by omega), if_pos ha, hE]
        simp only [decide_true, Bool.not_true, Bool.not_false, gtrue, Option.bind_some, cond_false]
        exact ht

end Go.Proofs.Ytplljenbabhjbaa
