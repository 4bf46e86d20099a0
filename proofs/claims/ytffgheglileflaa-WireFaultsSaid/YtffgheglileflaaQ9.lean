/- The functions of this seat, and the laws as plain Lean. -/
import Derived.Test.YtffgheglileflaaQ8

namespace Go.Proofs.Ytffgheglileflaa
open Go Go.Pv Go.Proofs Go.L
set_option maxRecDepth 100000

abbrev Op := Int × Int × Int × Int × (Int × Int × Int × Unit) × (List Int) × (List (Int × Int × Int × Unit)) × (List Int) × Unit

theorem lives_ok : law07_lives = some ((true, ()), ()) := by
  unfold law07_lives
  have hx : (2748 : Nat) < 340282366920938463463374607431768211456 := by omega
  have := wire_Vec_ok (b := []) (w := 12) (x := 2748) (by simp) hx
  have e : ((12, 0, 2748, ()) : Int × Int × Int × Unit) = vw 12 2748 := by decide
  have e2 : enc 12 2748 = [12, 10, 188] := by
    unfold enc
    have hb : bitLen 2748 = 12 := by
      refine bitLen_of (by decide) (.inr (by decide))
    have hm : may 12 2748 = true := by
      unfold may
      rw [hb]
      decide
    rw [hm]
    decide
  rw [e, this, Option.bind_some, e2]
  rfl

/-- an operation is of fit numbers -/
def okOp (o : Op) : Prop := (inR .u64 o.2.2.2.2.1.2.1 = true ∧ inR .u64 o.2.2.2.2.1.2.2.1 = true) ∧ ∀ v ∈ o.2.2.2.2.2.2.1, okV v

def small (o : Op) : Prop := o.2.2.2.2.2.1.length ≤ 600 ∧ o.2.2.2.2.2.2.1.length ≤ 300 ∧ o.2.2.2.2.2.2.2.1.length ≤ 300

theorem light_ok (ops : List Op) : ∃ r, law07_light ops = some ((r, ()), ()) ∧ (r = true → ops.length ≤ 30 ∧ ∀ o ∈ ops, small o) := by
  unfold law07_light
  by_cases hl : (ops.length : Int) > 30
  · rw [decide_eq_true hl, cond_true]
    exact ⟨false, rfl, fun h => by cases h⟩
  · rw [decide_eq_false hl, cond_false]
    have main : ∀ k i : Nat, ops.length - i = k → i ≤ ops.length → ∃ r, loopR (fun (z : ((List Op) × Int × Unit) × (Unit)) => law07_light_s0 z.1.1 z.1.2.1) ((ops, (i : Int), ()), ()) = some ((r, ()), ()) ∧ (r = true → ∀ j, i ≤ j → j < ops.length → small (ops.getD j (0, 0, 0, 0, (0, 0, 0, ()), [], [], [], ()))) := by
      intro k
      induction k with
      | zero =>
        intro i hk hi
        refine ⟨true, loopR_out ?_, fun _ j h1 h2 => by omega⟩
        dsimp only
        unfold law07_light_s0
        rw [decide_eq_false (show ¬ (i : Int) < (ops.length : Int) by omega), cond_false]
      | succ k ih =>
        intro i hk hi
        have hil : i < ops.length := by omega
        by_cases hs : small (ops.getD i (0, 0, 0, 0, (0, 0, 0, ()), [], [], [], ()))
        · obtain ⟨r, e, h⟩ := ih (i + 1) (by omega) (by omega)
          refine ⟨r, loopR_on ?_ e, fun hr j h1 h2 => ?_⟩
          · dsimp only
            unfold law07_light_s0
            rw [decide_eq_true (show (i : Int) < (ops.length : Int) by omega), cond_true, rd_getD' (0, 0, 0, 0, (0, 0, 0, ()), [], [], [], ()) hil, Option.bind_some]
            obtain ⟨h1, h2, h3⟩ := hs
            generalize ops.getD i (0, 0, 0, 0, (0, 0, 0, ()), [], [], [], ()) = o at h1 h2 h3
            simp only [gsome, decide_eq_false (show ¬ (o.2.2.2.2.2.2.1.length : Int) > 300 by omega), Bool.not_false, gtrue, Option.bind_some, cond_true, cond_false, decide_eq_false (show ¬ (o.2.2.2.2.2.2.2.1.length : Int) > 300 by omega), decide_eq_false (show ¬ (o.2.2.2.2.2.1.length : Int) > 600 by omega), wi64 (show i < 1000000000 by omega)]
          · by_cases e : j = i
            · subst e; exact hs
            · exact h hr j (by omega) h2
        · refine ⟨false, loopR_out ?_, fun h => by cases h⟩
          dsimp only
          unfold law07_light_s0
          rw [decide_eq_true (show (i : Int) < (ops.length : Int) by omega), cond_true, rd_getD' (0, 0, 0, 0, (0, 0, 0, ()), [], [], [], ()) hil, Option.bind_some]
          unfold small at hs
          generalize ops.getD i (0, 0, 0, 0, (0, 0, 0, ()), [], [], [], ()) = o at hs
          by_cases h2 : (o.2.2.2.2.2.2.1.length : Int) > 300
          · simp only [gsome, decide_eq_true h2, Bool.not_true, gfalse, cond_true, cond_false]
          · by_cases h3 : (o.2.2.2.2.2.2.2.1.length : Int) > 300
            · simp only [gsome, decide_eq_false h2, Bool.not_false, gtrue, Option.bind_some, cond_true, cond_false, decide_eq_true h3, Bool.not_true, gfalse]
            · have h4 : (o.2.2.2.2.2.1.length : Int) > 600 := by
                refine Classical.byContradiction fun h4 => hs ⟨by omega, by omega, by omega⟩
              simp only [gsome, decide_eq_false h2, Bool.not_false, gtrue, Option.bind_some, cond_true, cond_false, decide_eq_false h3, decide_eq_true h4]
    obtain ⟨r, e, h⟩ := main ops.length 0 (by omega) (by omega)
    refine ⟨r, e, fun hr => ⟨by omega, fun o ho => ?_⟩⟩
    obtain ⟨j, hj, rfl⟩ := List.getElem_of_mem ho
    have := h hr j (by omega) hj
    simp only [List.getD, List.getElem?_eq_getElem hj, Option.getD_some] at this
    exact this

theorem write_ok {b : List Int} {o : Op} (hb : b.length ≤ 500000) (ho : okOp o) (hs : small o) : ∃ e, law07_write b o = some ((b ++ e, e, ()), ()) ∧ e.length ≤ 10000 := by
  obtain ⟨⟨hv1, hv2⟩, hvs⟩ := ho
  obtain ⟨hs1, hs2, hs3⟩ := hs
  unfold law07_write
  by_cases h0 : o.1 = 0
  · refine ⟨be (nat64 o.2.1) 1, ?_, by rw [be_len]; omega⟩
    have e1 : wire_put b o.2.1 1 = some ((b ++ be (nat64 o.2.1) 1, ()), ()) := wire_put_ok (m := 1) (by omega) (by omega)
    have e2 : ref07_Number o.2.1 1 = some ((be (nat64 o.2.1) 1, ()), ()) := ref07_Number_ok (m := 1) (by omega)
    rw [decide_eq_true h0, cond_true]
    unfold wire_Byte
    rw [e1, e2]
    rfl
  rw [decide_eq_false h0, cond_false]
  by_cases h1 : o.1 = 1
  · refine ⟨be (nat64 o.2.1) 2, ?_, by rw [be_len]; omega⟩
    have e1 : wire_put b o.2.1 2 = some ((b ++ be (nat64 o.2.1) 2, ()), ()) := wire_put_ok (m := 2) (by omega) (by omega)
    have e2 : ref07_Number o.2.1 2 = some ((be (nat64 o.2.1) 2, ()), ()) := ref07_Number_ok (m := 2) (by omega)
    rw [decide_eq_true h1, cond_true]
    unfold wire_Two
    rw [e1, e2]
    rfl
  rw [decide_eq_false h1, cond_false]
  by_cases h2 : o.1 = 2
  · refine ⟨be (nat64 o.2.1) 4, ?_, by rw [be_len]; omega⟩
    have e1 : wire_put b o.2.1 4 = some ((b ++ be (nat64 o.2.1) 4, ()), ()) := wire_put_ok (m := 4) (by omega) (by omega)
    have e2 : ref07_Number o.2.1 4 = some ((be (nat64 o.2.1) 4, ()), ()) := ref07_Number_ok (m := 4) (by omega)
    rw [decide_eq_true h2, cond_true]
    unfold wire_Four
    rw [e1, e2]
    rfl
  rw [decide_eq_false h2, cond_false]
  by_cases h3 : o.1 = 3
  · obtain ⟨hx, e⟩ := okV_vw (v := o.2.2.2.2.1) ⟨hv1, hv2⟩
    refine ⟨enc o.2.2.2.2.1.1 (o.2.2.2.2.1.2.1.toNat * 18446744073709551616 + o.2.2.2.2.1.2.2.1.toNat), ?_, ?_⟩
    · rw [decide_eq_true h3, cond_true, show ((o.2.2.2.2.1.1, o.2.2.2.2.1.2.1, o.2.2.2.2.1.2.2.1, ()) : Int × Int × Int × Unit) = o.2.2.2.2.1 from rfl]
      generalize o.2.2.2.2.1 = v at hx e ⊢
      have e1 := wire_Vec_ok (b := b) (w := v.1) (by omega) hx
      have e2 := ref07_Vec_ok (w := v.1) hx
      rw [← e] at e1 e2
      rw [e1, e2]
      rfl
    · have := enc_len o.2.2.2.2.1.1 (o.2.2.2.2.1.2.1.toNat * 18446744073709551616 + o.2.2.2.2.1.2.2.1.toNat)
      omega
  rw [decide_eq_false h3, cond_false]
  by_cases h4 : o.1 = 4
  · refine ⟨encName o.2.2.2.2.2.1, ?_, ?_⟩
    · rw [decide_eq_true h4, cond_true, wire_Name_ok (by omega), ref07_Name_ok]
      rfl
    · unfold encName
      split
      · rw [List.length_cons]; omega
      · simp
  rw [decide_eq_false h4, cond_false]
  by_cases h5 : o.1 = 5
  · rw [decide_eq_true h5, cond_true]
    by_cases hl : o.2.2.2.2.2.2.1.length ≤ 255
    · refine ⟨encVecs o.2.2.2.2.2.2.1, ?_, ?_⟩
      · rw [decide_eq_true (show (o.2.2.2.2.2.2.1.length : Int) ≤ 255 by omega), cond_true]
        show loopR _ _ = _
        rw [show ((o.1, o.2.1, o.2.2.1, o.2.2.2.1, (o.2.2.2.2.1.1, o.2.2.2.2.1.2.1, o.2.2.2.2.1.2.2.1, ()), o.2.2.2.2.2.1, o.2.2.2.2.2.2.1, o.2.2.2.2.2.2.2.1, ()) : Op) = o from rfl, wrap_u8 (n := (o.2.2.2.2.2.2.1.length : Int)) (by omega) (by omega)]
        have hev : encVecs o.2.2.2.2.2.2.1 = (o.2.2.2.2.2.2.1.length : Int) :: encs o.2.2.2.2.2.2.1 := by unfold encVecs; rw [if_pos hl]
        refine loop_up (fun i => ((b, [(o.2.2.2.2.2.2.1.length : Int)] ++ encs (o.2.2.2.2.2.2.1.take i), (i : Int), ()), o, ())) o.2.2.2.2.2.2.1.length ?_ ?_ 0 (by omega)
        · intro i hi
          dsimp only
          unfold law07_write_s1
          obtain ⟨hx, e⟩ := okV_vw (hvs _ (getD_mem (0, 0, 0, ()) hi))
          have hlen := encs_len (o.2.2.2.2.2.2.1.take i)
          rw [List.length_take] at hlen
          rw [decide_eq_true (show (i : Int) < (o.2.2.2.2.2.2.1.length : Int) by omega), cond_true, rd_getD' (0, 0, 0, ()) hi, Option.bind_some, take_lt hi]
          generalize o.2.2.2.2.2.2.1.getD i (0, 0, 0, ()) = v at hx e ⊢
          have e2 := ref07_Vec_ok (w := v.1) hx
          rw [← e] at e2
          have hel := enc_len v.1 (v.2.1.toNat * 18446744073709551616 + v.2.2.1.toNat)
          rw [e2, Option.bind_some]
          dsimp only
          rw [roomI_ok (by simp only [List.length_append, List.length_cons, List.length_nil]; omega), Option.bind_some, wi64 (by omega), List.append_assoc]
        · dsimp only
          unfold law07_write_s1
          rw [decide_eq_false (show ¬ (o.2.2.2.2.2.2.1.length : Int) < (o.2.2.2.2.2.2.1.length : Int) by omega), cond_false, wire_Vecs_ok (by omega) hvs, Option.bind_some, List.take_length, hev]
          rfl
      · unfold encVecs
        have := encs_len o.2.2.2.2.2.2.1
        rw [if_pos hl, List.length_cons]
        omega
    · refine ⟨[0], ?_, by simp⟩
      rw [decide_eq_false (show ¬ (o.2.2.2.2.2.2.1.length : Int) ≤ 255 by omega), cond_false, wire_Vecs_ok (by omega) hvs]
      unfold encVecs
      rw [if_neg hl]
      rfl
  rw [decide_eq_false h5, cond_false]
  by_cases h6 : o.1 = 6
  · rw [decide_eq_true h6, cond_true]
    by_cases hl : o.2.2.2.2.2.2.2.1.length ≤ 255
    · refine ⟨encNums o.2.2.2.2.2.2.2.1, ?_, ?_⟩
      · rw [decide_eq_true (show (o.2.2.2.2.2.2.2.1.length : Int) ≤ 255 by omega), cond_true]
        show loopR _ _ = _
        rw [show ((o.1, o.2.1, o.2.2.1, o.2.2.2.1, (o.2.2.2.2.1.1, o.2.2.2.2.1.2.1, o.2.2.2.2.1.2.2.1, ()), o.2.2.2.2.2.1, o.2.2.2.2.2.2.1, o.2.2.2.2.2.2.2.1, ()) : Op) = o from rfl, wrap_u8 (n := (o.2.2.2.2.2.2.2.1.length : Int)) (by omega) (by omega)]
        have hev : encNums o.2.2.2.2.2.2.2.1 = (o.2.2.2.2.2.2.2.1.length : Int) :: o.2.2.2.2.2.2.2.1.map IntKind.u8.wrap := by unfold encNums; rw [if_pos hl]
        refine loop_up (fun i => ((b, [(o.2.2.2.2.2.2.2.1.length : Int)] ++ (o.2.2.2.2.2.2.2.1.take i).map IntKind.u8.wrap, (i : Int), ()), o, ())) o.2.2.2.2.2.2.2.1.length ?_ ?_ 0 (by omega)
        · intro i hi
          dsimp only
          unfold law07_write_s3
          rw [decide_eq_true (show (i : Int) < (o.2.2.2.2.2.2.2.1.length : Int) by omega), cond_true, rd_getD' 0 hi, Option.bind_some, map_take hi, roomI_ok (by simp only [List.length_append, List.length_map, List.length_take, List.length_cons, List.length_nil]; omega), Option.bind_some, wi64 (by omega), List.append_assoc]
        · dsimp only
          unfold law07_write_s3
          rw [decide_eq_false (show ¬ (o.2.2.2.2.2.2.2.1.length : Int) < (o.2.2.2.2.2.2.2.1.length : Int) by omega), cond_false, wire_Numbers_ok (by omega), Option.bind_some, List.take_length, hev]
          rfl
      · unfold encNums
        rw [if_pos hl, List.length_cons, List.length_map]
        omega
    · refine ⟨[0], ?_, by simp⟩
      rw [decide_eq_false (show ¬ (o.2.2.2.2.2.2.2.1.length : Int) ≤ 255 by omega), cond_false, wire_Numbers_ok (by omega)]
      unfold encNums
      rw [if_neg hl]
      rfl
  rw [decide_eq_false h6, cond_false]
  refine ⟨[], ?_, by simp⟩
  rw [List.append_nil]

theorem writes_ok {ops : List Op} (ho : ∀ o ∈ ops, okOp o) : law07_WireWrites ops = some ((true, ()), ()) := by
  unfold law07_WireWrites
  obtain ⟨r, e, h⟩ := light_ok ops
  rw [e, Option.bind_some]
  cases r with
  | false =>
    simp only [Bool.not_false, cond_true, lives_ok, Option.bind_some]
  | true =>
    obtain ⟨hl, hs⟩ := h rfl
    simp only [Bool.not_true, cond_false]
    refine loop_meas (fun z => ∃ (i : Nat) (b : List Int), i ≤ ops.length ∧ b.length ≤ i * 10000 ∧ z = ((ops, b, (i : Int), ()), ())) (fun z => ops.length - z.1.2.2.1.toNat) ?_ ⟨0, [], by omega, by simp, rfl⟩
    rintro _ ⟨i, b, hi, hb, rfl⟩
    dsimp only
    unfold law07_WireWrites_s0
    by_cases hil : i < ops.length
    · right
      have hmem := getD_mem ((0, 0, 0, 0, (0, 0, 0, ()), [], [], [], ()) : Op) hil
      obtain ⟨x, e1, e2⟩ := write_ok (b := b) (by omega) (ho _ hmem) (hs _ hmem)
      refine ⟨((ops, b ++ x, ((i + 1 : Nat) : Int), ()), ()), ?_, ⟨i + 1, b ++ x, by omega, by rw [List.length_append]; omega, rfl⟩, ?_⟩
      · have hc : catI b x = some (b ++ x) := by
          unfold catI
          rw [if_pos (by omega)]
        rw [decide_eq_true (show (i : Int) < (ops.length : Int) by omega), cond_true, rd_getD' (0, 0, 0, 0, (0, 0, 0, ()), [], [], [], ()) hil, Option.bind_some, e1, Option.bind_some, hc, Option.bind_some, decide_eq_true rfl, Bool.not_true, cond_false, wi64 (by omega)]
      · dsimp only
        rw [Int.toNat_natCast, Int.toNat_natCast]
        omega
    · left
      rw [decide_eq_false (show ¬ (i : Int) < (ops.length : Int) by omega), cond_false, lives_ok]
      rfl

/-- what the kit says of an operation that came in -/
theorem okOp_of {o : Op} (h : Wf (.pair (.int .i64) (.pair (.int .i64) (.pair (.int .i64) (.pair (.int .i64) (.pair (.agg (.pair (.int .i64) (.pair (.int .u64) (.pair (.int .u64) .unit)))) (.pair .str (.pair (.slice (.agg (.pair (.int .i64) (.pair (.int .u64) (.pair (.int .u64) .unit))))) (.pair (.slice (.int .i64)) .unit)))))))) o) : okOp o :=
  ⟨⟨h.2.2.2.2.1.2.1, h.2.2.2.2.1.2.2.1⟩, fun v hv => ⟨(h.2.2.2.2.2.2.1.2 v hv).2.1, (h.2.2.2.2.2.2.1.2 v hv).2.2.1⟩⟩

end Go.Proofs.Ytffgheglileflaa
