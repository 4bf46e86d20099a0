/- The functions that the statements reach as plain Lean, and what they compute. -/
import Derived.Test.YtplljenbabhjbaaQ6

set_option linter.unusedSimpArgs false
set_option linter.unusedVariables false

namespace Go.L
open Go Go.Pv
set_option maxRecDepth 100000

/-! ### shunter/batch.within -/
noncomputable def batch_within (n_0 : Int) (lo_1 : Int) (hi_2 : Int) : Option ((Bool × Unit) × (Unit)) :=
  let t9_1 : Bool := decide (n_0 ≥ lo_1)
  guardR t9_1 (some ()) () fun _ =>
  guardR t9_1 (some ()) () fun _ =>
  guardR t9_1 (some (decide (n_0 ≤ hi_2))) false fun v_2 =>
  some (((bif t9_1 then v_2 else false), ()), ())

/-! ### shunter/batch.blank -/
noncomputable def batch_blank_ea6 (x_0 : Unit × Unit × Int × Int × (Int × Unit × Unit) × Unit) : Option ((Bool × Unit) × (Unit)) :=
  let t6_1 : Bool := decide ((0 : Int) = 0)
  guardR t6_1 (some ()) () fun _ =>
  guardR t6_1 (some x_0.2.1) () fun v_2 =>
  guardR t6_1 (some (0 : Int)) 0 fun v_3 =>
  guardR t6_1 (some (decide (v_3 = 0))) false fun v_4 =>
  let t12_5 : Bool := bif t6_1 then v_4 else false
  guardR t12_5 (some ()) () fun _ =>
  guardR t12_5 (some x_0.2.2.1) 0 fun v_6 =>
  guardR t12_5 (some (decide (v_6 = 0))) false fun v_7 =>
  let t17_8 : Bool := bif t12_5 then v_7 else false
  guardR t17_8 (some ()) () fun _ =>
  guardR t17_8 (some x_0.2.2.2.1) 0 fun v_9 =>
  guardR t17_8 (some (decide (v_9 = 0))) false fun v_10 =>
  some (((bif t17_8 then v_10 else false), ()), ())

/-! ### shunter/batch.blank -/
noncomputable def batch_blank (x_0 : (List (Int × Int × Int × Unit)) × (List (Int × Int × Int × Unit)) × Int × Int × (Int × (List (Int × Int × Int × Unit)) × Unit) × Unit) : Option ((Bool × Unit) × (Unit)) :=
  let t6_2 : Bool := decide ((x_0.1.length : Int) = 0)
  guardR t6_2 (some ()) () fun _ =>
  guardR t6_2 (some x_0.2.1) [] fun v_3 =>
  guardR t6_2 (some (v_3.length : Int)) 0 fun v_4 =>
  guardR t6_2 (some (decide (v_4 = 0))) false fun v_5 =>
  let t12_6 : Bool := bif t6_2 then v_5 else false
  guardR t12_6 (some ()) () fun _ =>
  guardR t12_6 (some x_0.2.2.1) 0 fun v_7 =>
  guardR t12_6 (some (decide (v_7 = 0))) false fun v_8 =>
  let t17_9 : Bool := bif t12_6 then v_8 else false
  guardR t17_9 (some ()) () fun _ =>
  guardR t17_9 (some x_0.2.2.2.1) 0 fun v_10 =>
  guardR t17_9 (some (decide (v_10 = 0))) false fun v_11 =>
  some (((bif t17_9 then v_11 else false), ()), ())

/-! ### shunter/batch.group$1 -/
noncomputable def batch_group_1 (n_0 : Int) : Option ((Bool × Unit) × (Unit)) :=
  (batch_within n_0 0 255).bind fun r_1 =>
  some ((!r_1.1.1, ()), ())

/-! ### slices.IndexFunc[[]int,int] -/
noncomputable def slices_IndexFunc_int_int_6be_s0 (s_0_0 : List Int) (t7_7_0 : Int) (t8_8_0 : Int) : Option ((((List Int) × Int × Int × Unit) × (Unit)) ⊕ ((Int × Unit) × (Unit))) :=
  bif (decide (t8_8_0 < t7_7_0)) then
    (rdI s_0_0 t8_8_0).bind fun v_3 =>
    (batch_group_1 v_3).bind fun r_4 =>
    bif r_4.1.1 then
      some (.inr ((t8_8_0, ()), ()))
    else
    some (.inl ((s_0_0, t7_7_0, (IntKind.i64.wrap (t8_8_0 + 1)), ()), ()))
  else
  some (.inr (((-1), ()), ()))
noncomputable def slices_IndexFunc_int_int_6be (s_0 : List Int) : Option ((Int × Unit) × (Unit)) :=
  loopR (fun (z : ((List Int) × Int × Int × Unit) × (Unit)) => slices_IndexFunc_int_int_6be_s0 z.1.1 z.1.2.1 z.1.2.2.1) ((s_0, (s_0.length : Int), 0, ()), ())

/-! ### slices.ContainsFunc[[]int,int] -/
noncomputable def slices_ContainsFunc_int_int_6be (s_0 : List Int) : Option ((Bool × Unit) × (Unit)) :=
  (slices_IndexFunc_int_int_6be s_0).bind fun r_1 =>
  some (((decide (r_1.1.1 ≥ 0)), ()), ())

/-! ### shunter/batch.group -/
noncomputable def batch_group_cc5 (u_0 : Int × Int × (Unit × Unit × Int × Int × (Int × Unit × Unit) × Unit) × Int × Unit × Unit) : Option ((Bool × Unit) × (Unit)) :=
  let t9_1 : Bool := decide (u_0.2.1 = 0)
  guardR t9_1 (some (u_0.2.2.1.1, u_0.2.2.1.2.1, u_0.2.2.1.2.2.1, u_0.2.2.1.2.2.2.1, (u_0.2.2.1.2.2.2.2.1.1, u_0.2.2.1.2.2.2.2.1.2.1, ()), ())) ((), (), 0, 0, (0, (), ()), ()) fun v_2 =>
  guardR t9_1 (batch_blank_ea6 v_2) ((false, ()), ()) fun r_3 =>
  let t13_4 : Bool := bif t9_1 then r_3.1.1 else false
  guardR t13_4 (some ()) () fun _ =>
  guardR t13_4 (some ()) () fun _ =>
  guardR t13_4 (some u_0.2.2.1.2.2.2.2.1.1) 0 fun v_5 =>
  guardR t13_4 (some (decide (v_5 = 0))) false fun v_6 =>
  let t19_7 : Bool := bif t13_4 then v_6 else false
  guardR t19_7 (some ()) () fun _ =>
  guardR t19_7 (some ()) () fun _ =>
  guardR t19_7 (some u_0.2.2.1.2.2.2.2.1.2.1) () fun v_8 =>
  guardR t19_7 (some (0 : Int)) 0 fun v_9 =>
  guardR t19_7 (some (decide (v_9 = 0))) false fun v_10 =>
  let t26_11 : Bool := bif t19_7 then v_10 else false
  guardR t26_11 (some ()) () fun _ =>
  guardR t26_11 (some u_0.2.2.2.1) 0 fun v_12 =>
  guardR t26_11 (batch_within v_12 0 255) ((false, ()), ()) fun r_13 =>
  let t31_14 : Bool := bif t26_11 then r_13.1.1 else false
  guardR t31_14 (some ()) () fun _ =>
  guardR t31_14 (some u_0.2.2.2.2.1) () fun v_15 =>
  guardR t31_14 (some (0 : Int)) 0 fun v_16 =>
  guardR t31_14 (some (decide (v_16 ≤ 64))) false fun v_17 =>
  let t37_18 : Bool := bif t31_14 then v_17 else false
  guardR t37_18 (some ()) () fun _ =>
  guardR t37_18 (some u_0.2.2.2.2.1) () fun v_19 =>
  guardR t37_18 (some ()) () fun _ =>
  guardR t37_18 (slices_ContainsFunc_int_int_6be []) ((false, ()), ()) fun r_20 =>
  guardR t37_18 (some ()) () fun _ =>
  some (((bif t37_18 then !r_20.1.1 else false), ()), ())

/-! ### shunter/batch.group -/
noncomputable def batch_group (u_0 : Int × Int × ((List (Int × Int × Int × Unit)) × (List (Int × Int × Int × Unit)) × Int × Int × (Int × (List (Int × Int × Int × Unit)) × Unit) × Unit) × Int × (List Int) × Unit) : Option ((Bool × Unit) × (Unit)) :=
  let t9_1 : Bool := decide (u_0.2.1 = 0)
  guardR t9_1 (some (u_0.2.2.1.1, u_0.2.2.1.2.1, u_0.2.2.1.2.2.1, u_0.2.2.1.2.2.2.1, (u_0.2.2.1.2.2.2.2.1.1, u_0.2.2.1.2.2.2.2.1.2.1, ()), ())) ([], [], 0, 0, (0, [], ()), ()) fun v_2 =>
  guardR t9_1 (batch_blank v_2) ((false, ()), ()) fun r_3 =>
  let t13_4 : Bool := bif t9_1 then r_3.1.1 else false
  guardR t13_4 (some ()) () fun _ =>
  guardR t13_4 (some ()) () fun _ =>
  guardR t13_4 (some u_0.2.2.1.2.2.2.2.1.1) 0 fun v_5 =>
  guardR t13_4 (some (decide (v_5 = 0))) false fun v_6 =>
  let t19_7 : Bool := bif t13_4 then v_6 else false
  guardR t19_7 (some ()) () fun _ =>
  guardR t19_7 (some ()) () fun _ =>
  guardR t19_7 (some u_0.2.2.1.2.2.2.2.1.2.1) [] fun v_8 =>
  guardR t19_7 (some (v_8.length : Int)) 0 fun v_9 =>
  guardR t19_7 (some (decide (v_9 = 0))) false fun v_10 =>
  let t26_11 : Bool := bif t19_7 then v_10 else false
  guardR t26_11 (some ()) () fun _ =>
  guardR t26_11 (some u_0.2.2.2.1) 0 fun v_12 =>
  guardR t26_11 (batch_within v_12 0 255) ((false, ()), ()) fun r_13 =>
  let t31_14 : Bool := bif t26_11 then r_13.1.1 else false
  guardR t31_14 (some ()) () fun _ =>
  guardR t31_14 (some u_0.2.2.2.2.1) [] fun v_15 =>
  guardR t31_14 (some (v_15.length : Int)) 0 fun v_16 =>
  guardR t31_14 (some (decide (v_16 ≤ 64))) false fun v_17 =>
  let t37_18 : Bool := bif t31_14 then v_17 else false
  guardR t37_18 (some ()) () fun _ =>
  guardR t37_18 (some u_0.2.2.2.2.1) [] fun v_19 =>
  guardR t37_18 (some ()) () fun _ =>
  guardR t37_18 (slices_ContainsFunc_int_int_6be v_19) ((false, ()), ()) fun r_20 =>
  guardR t37_18 (some ()) () fun _ =>
  some (((bif t37_18 then !r_20.1.1 else false), ()), ())

/-! ### shunter/batch.matches -/
noncomputable def batch_matches (k_0 : Int) : Option ((Bool × Unit) × (Unit)) :=
  let t4_1 : Bool := decide (k_0 = 0)
  guardR (!t4_1) (some ()) () fun _ =>
  guardR (!t4_1) (some (decide (k_0 = 1))) false fun v_2 =>
  let t8_3 : Bool := bif t4_1 then true else v_2
  guardR (!t8_3) (some ()) () fun _ =>
  guardR (!t8_3) (some (decide (k_0 = 2))) false fun v_4 =>
  some (((bif t8_3 then true else v_4), ()), ())

/-! ### shunter/batch.rows$1 -/
noncomputable def batch_rows_1 (v_0 : Int × Int × Int × Unit) : Option ((Bool × Unit) × (Unit)) :=
  (vec_May (v_0.1, v_0.2.1, v_0.2.2.1, ())).bind fun r_1 =>
  some ((!r_1.1.1, ()), ())

/-! ### slices.IndexFunc[[]shunter/api.Vec,shunter/api.Vec] -/
noncomputable def slices_IndexFunc_api_Vec_api_Vec_d9d_s0 (s_0_0 : List (Int × Int × Int × Unit)) (t7_7_0 : Int) (t8_8_0 : Int) : Option ((((List (Int × Int × Int × Unit)) × Int × Int × Unit) × (Unit)) ⊕ ((Int × Unit) × (Unit))) :=
  bif (decide (t8_8_0 < t7_7_0)) then
    (rdI s_0_0 t8_8_0).bind fun v_3 =>
    (batch_rows_1 v_3).bind fun r_4 =>
    bif r_4.1.1 then
      some (.inr ((t8_8_0, ()), ()))
    else
    some (.inl ((s_0_0, t7_7_0, (IntKind.i64.wrap (t8_8_0 + 1)), ()), ()))
  else
  some (.inr (((-1), ()), ()))
noncomputable def slices_IndexFunc_api_Vec_api_Vec_d9d (s_0 : List (Int × Int × Int × Unit)) : Option ((Int × Unit) × (Unit)) :=
  loopR (fun (z : ((List (Int × Int × Int × Unit)) × Int × Int × Unit) × (Unit)) => slices_IndexFunc_api_Vec_api_Vec_d9d_s0 z.1.1 z.1.2.1 z.1.2.2.1) ((s_0, (s_0.length : Int), 0, ()), ())

/-! ### slices.ContainsFunc[[]shunter/api.Vec,shunter/api.Vec] -/
noncomputable def slices_ContainsFunc_api_Vec_api_Vec_d9d (s_0 : List (Int × Int × Int × Unit)) : Option ((Bool × Unit) × (Unit)) :=
  (slices_IndexFunc_api_Vec_api_Vec_d9d s_0).bind fun r_1 =>
  some (((decide (r_1.1.1 ≥ 0)), ()), ())

/-! ### shunter/batch.rows -/
noncomputable def batch_rows (l_0 : List (Int × Int × Int × Unit)) (most_1 : Int) : Option ((Bool × Unit) × (Unit)) :=
  let t8_2 : Bool := decide ((l_0.length : Int) ≤ most_1)
  guardR t8_2 (some ()) () fun _ =>
  guardR t8_2 (slices_ContainsFunc_api_Vec_api_Vec_d9d l_0) ((false, ()), ()) fun r_3 =>
  guardR t8_2 (some ()) () fun _ =>
  some (((bif t8_2 then !r_3.1.1 else false), ()), ())

/-! ### shunter/batch.match -/
noncomputable def batch_match_ea6 (x_0 : Unit × Unit × Int × Int × (Int × Unit × Unit) × Unit) : Option ((Bool × Unit) × (Unit)) :=
  (batch_rows [] 4).bind fun r_1 =>
  guardR r_1.1.1 (some ()) () fun _ =>
  guardR r_1.1.1 (some x_0.2.1) () fun v_2 =>
  guardR r_1.1.1 (batch_rows [] 4) ((false, ()), ()) fun r_3 =>
  let t10_4 : Bool := bif r_1.1.1 then r_3.1.1 else false
  guardR t10_4 (some ()) () fun _ =>
  guardR t10_4 (some x_0.2.2.1) 0 fun v_5 =>
  guardR t10_4 (batch_within v_5 0 65535) ((false, ()), ()) fun r_6 =>
  let t15_7 : Bool := bif t10_4 then r_6.1.1 else false
  guardR t15_7 (some ()) () fun _ =>
  guardR t15_7 (some x_0.2.2.2.1) 0 fun v_8 =>
  guardR t15_7 (batch_within v_8 0 65535) ((false, ()), ()) fun r_9 =>
  some (((bif t15_7 then r_9.1.1 else false), ()), ())

/-! ### shunter/batch.match -/
noncomputable def batch_match (x_0 : (List (Int × Int × Int × Unit)) × (List (Int × Int × Int × Unit)) × Int × Int × (Int × (List (Int × Int × Int × Unit)) × Unit) × Unit) : Option ((Bool × Unit) × (Unit)) :=
  (batch_rows x_0.1 4).bind fun r_1 =>
  guardR r_1.1.1 (some ()) () fun _ =>
  guardR r_1.1.1 (some x_0.2.1) [] fun v_2 =>
  guardR r_1.1.1 (batch_rows v_2 4) ((false, ()), ()) fun r_3 =>
  let t10_4 : Bool := bif r_1.1.1 then r_3.1.1 else false
  guardR t10_4 (some ()) () fun _ =>
  guardR t10_4 (some x_0.2.2.1) 0 fun v_5 =>
  guardR t10_4 (batch_within v_5 0 65535) ((false, ()), ()) fun r_6 =>
  let t15_7 : Bool := bif t10_4 then r_6.1.1 else false
  guardR t15_7 (some ()) () fun _ =>
  guardR t15_7 (some x_0.2.2.2.1) 0 fun v_8 =>
  guardR t15_7 (batch_within v_8 0 65535) ((false, ()), ()) fun r_9 =>
  some (((bif t15_7 then r_9.1.1 else false), ()), ())

/-! ### shunter/batch.calls -/
noncomputable def batch_calls (k_0 : Int) : Option ((Bool × Unit) × (Unit)) :=
  let t4_1 : Bool := decide (k_0 = 0)
  guardR (!t4_1) (some ()) () fun _ =>
  guardR (!t4_1) (some (decide (k_0 = 1))) false fun v_2 =>
  let t8_3 : Bool := bif t4_1 then true else v_2
  guardR (!t8_3) (some ()) () fun _ =>
  guardR (!t8_3) (some (decide (k_0 = 3))) false fun v_4 =>
  some (((bif t8_3 then true else v_4), ()), ())

/-! ### shunter/batch.call -/
noncomputable def batch_call_7ab (c_0 : Int × Unit × Unit) : Option ((Bool × Unit) × (Unit)) :=
  (batch_within c_0.1 0 255).bind fun r_1 =>
  guardR r_1.1.1 (some ()) () fun _ =>
  guardR r_1.1.1 (some c_0.2.1) () fun v_2 =>
  guardR r_1.1.1 (batch_rows [] 8) ((false, ()), ()) fun r_3 =>
  some (((bif r_1.1.1 then r_3.1.1 else false), ()), ())

/-! ### shunter/batch.call -/
noncomputable def batch_call (c_0 : Int × (List (Int × Int × Int × Unit)) × Unit) : Option ((Bool × Unit) × (Unit)) :=
  (batch_within c_0.1 0 255).bind fun r_1 =>
  guardR r_1.1.1 (some ()) () fun _ =>
  guardR r_1.1.1 (some c_0.2.1) [] fun v_2 =>
  guardR r_1.1.1 (batch_rows v_2 8) ((false, ()), ()) fun r_3 =>
  some (((bif r_1.1.1 then r_3.1.1 else false), ()), ())

/-! ### shunter/batch.May -/
noncomputable def batch_May_cc5 (u_0 : Int × Int × (Unit × Unit × Int × Int × (Int × Unit × Unit) × Unit) × Int × Unit × Unit) : Option ((Bool × Unit) × (Unit)) :=
  (batch_within u_0.1 0 4).bind fun r_1 =>
  bif !r_1.1.1 then
    some ((false, ()), ())
  else
  bif (decide (u_0.1 = 4)) then
    (batch_group_cc5 (u_0.1, u_0.2.1, (u_0.2.2.1.1, u_0.2.2.1.2.1, u_0.2.2.1.2.2.1, u_0.2.2.1.2.2.2.1, (u_0.2.2.1.2.2.2.2.1.1, u_0.2.2.1.2.2.2.2.1.2.1, ()), ()), u_0.2.2.2.1, u_0.2.2.2.2.1, ())).bind fun r_3 =>
    some ((r_3.1.1, ()), ())
  else
  (batch_blank_ea6 (u_0.2.2.1.1, u_0.2.2.1.2.1, u_0.2.2.1.2.2.1, u_0.2.2.1.2.2.2.1, (u_0.2.2.1.2.2.2.2.1.1, u_0.2.2.1.2.2.2.2.1.2.1, ()), ())).bind fun r_4 =>
  (batch_matches u_0.1).bind fun r_5 =>
  bif r_5.1.1 then
    (batch_match_ea6 (u_0.2.2.1.1, u_0.2.2.1.2.1, u_0.2.2.1.2.2.1, u_0.2.2.1.2.2.2.1, (u_0.2.2.1.2.2.2.2.1.1, u_0.2.2.1.2.2.2.2.1.2.1, ()), ())).bind fun r_6 =>
    (batch_calls u_0.1).bind fun r_7 =>
    bif r_7.1.1 then
      guardR r_6.1.1 (some ()) () fun _ =>
      guardR r_6.1.1 (some (u_0.2.2.1.2.2.2.2.1.1, u_0.2.2.1.2.2.2.2.1.2.1, ())) (0, (), ()) fun v_8 =>
      guardR r_6.1.1 (batch_call_7ab v_8) ((false, ()), ()) fun r_9 =>
      let t31_10 : Bool := bif r_6.1.1 then r_9.1.1 else false
      guardR t31_10 (some ()) () fun _ =>
      guardR t31_10 (some u_0.2.1) 0 fun v_11 =>
      guardR t31_10 (batch_within v_11 0 255) ((false, ()), ()) fun r_12 =>
      let t51_13 : Bool := bif t31_10 then r_12.1.1 else false
      guardR t51_13 (some ()) () fun _ =>
      guardR t51_13 (some u_0.2.2.2.1) 0 fun v_14 =>
      guardR t51_13 (some (decide (v_14 = 0))) false fun v_15 =>
      let t56_16 : Bool := bif t51_13 then v_15 else false
      guardR t56_16 (some ()) () fun _ =>
      guardR t56_16 (some u_0.2.2.2.2.1) () fun v_17 =>
      guardR t56_16 (some (0 : Int)) 0 fun v_18 =>
      guardR t56_16 (some (decide (v_18 = 0))) false fun v_19 =>
      some (((bif t56_16 then v_19 else false), ()), ())
    else
    guardR r_6.1.1 (some ()) () fun _ =>
    guardR r_6.1.1 (some ()) () fun _ =>
    guardR r_6.1.1 (some u_0.2.2.1.2.2.2.2.1.1) 0 fun v_21 =>
    guardR r_6.1.1 (some (decide (v_21 = 0))) false fun v_22 =>
    let t38_23 : Bool := bif r_6.1.1 then v_22 else false
    guardR t38_23 (some ()) () fun _ =>
    guardR t38_23 (some ()) () fun _ =>
    guardR t38_23 (some u_0.2.2.1.2.2.2.2.1.2.1) () fun v_24 =>
    guardR t38_23 (some (0 : Int)) 0 fun v_25 =>
    guardR t38_23 (some (decide (v_25 = 0))) false fun v_26 =>
    let t45_27 : Bool := bif t38_23 then v_26 else false
    guardR t45_27 (some ()) () fun _ =>
    guardR t45_27 (some u_0.2.1) 0 fun v_28 =>
    guardR t45_27 (batch_within v_28 0 255) ((false, ()), ()) fun r_29 =>
    let t51_30 : Bool := bif t45_27 then r_29.1.1 else false
    guardR t51_30 (some ()) () fun _ =>
    guardR t51_30 (some u_0.2.2.2.1) 0 fun v_31 =>
    guardR t51_30 (some (decide (v_31 = 0))) false fun v_32 =>
    let t56_33 : Bool := bif t51_30 then v_32 else false
    guardR t56_33 (some ()) () fun _ =>
    guardR t56_33 (some u_0.2.2.2.2.1) () fun v_34 =>
    guardR t56_33 (some (0 : Int)) 0 fun v_35 =>
    guardR t56_33 (some (decide (v_35 = 0))) false fun v_36 =>
    some (((bif t56_33 then v_36 else false), ()), ())
  else
  (batch_calls u_0.1).bind fun r_38 =>
  bif r_38.1.1 then
    guardR r_4.1.1 (some ()) () fun _ =>
    guardR r_4.1.1 (some (u_0.2.2.1.2.2.2.2.1.1, u_0.2.2.1.2.2.2.2.1.2.1, ())) (0, (), ()) fun v_39 =>
    guardR r_4.1.1 (batch_call_7ab v_39) ((false, ()), ()) fun r_40 =>
    let t31_41 : Bool := bif r_4.1.1 then r_40.1.1 else false
    guardR t31_41 (some ()) () fun _ =>
    guardR t31_41 (some u_0.2.1) 0 fun v_42 =>
    guardR t31_41 (batch_within v_42 0 255) ((false, ()), ()) fun r_43 =>
    let t51_44 : Bool := bif t31_41 then r_43.1.1 else false
    guardR t51_44 (some ()) () fun _ =>
    guardR t51_44 (some u_0.2.2.2.1) 0 fun v_45 =>
    guardR t51_44 (some (decide (v_45 = 0))) false fun v_46 =>
    let t56_47 : Bool := bif t51_44 then v_46 else false
    guardR t56_47 (some ()) () fun _ =>
    guardR t56_47 (some u_0.2.2.2.2.1) () fun v_48 =>
    guardR t56_47 (some (0 : Int)) 0 fun v_49 =>
    guardR t56_47 (some (decide (v_49 = 0))) false fun v_50 =>
    some (((bif t56_47 then v_50 else false), ()), ())
  else
  guardR r_4.1.1 (some ()) () fun _ =>
  guardR r_4.1.1 (some ()) () fun _ =>
  guardR r_4.1.1 (some u_0.2.2.1.2.2.2.2.1.1) 0 fun v_52 =>
  guardR r_4.1.1 (some (decide (v_52 = 0))) false fun v_53 =>
  let t38_54 : Bool := bif r_4.1.1 then v_53 else false
  guardR t38_54 (some ()) () fun _ =>
  guardR t38_54 (some ()) () fun _ =>
  guardR t38_54 (some u_0.2.2.1.2.2.2.2.1.2.1) () fun v_55 =>
  guardR t38_54 (some (0 : Int)) 0 fun v_56 =>
  guardR t38_54 (some (decide (v_56 = 0))) false fun v_57 =>
  let t45_58 : Bool := bif t38_54 then v_57 else false
  guardR t45_58 (some ()) () fun _ =>
  guardR t45_58 (some u_0.2.1) 0 fun v_59 =>
  guardR t45_58 (batch_within v_59 0 255) ((false, ()), ()) fun r_60 =>
  let t51_61 : Bool := bif t45_58 then r_60.1.1 else false
  guardR t51_61 (some ()) () fun _ =>
  guardR t51_61 (some u_0.2.2.2.1) 0 fun v_62 =>
  guardR t51_61 (some (decide (v_62 = 0))) false fun v_63 =>
  let t56_64 : Bool := bif t51_61 then v_63 else false
  guardR t56_64 (some ()) () fun _ =>
  guardR t56_64 (some u_0.2.2.2.2.1) () fun v_65 =>
  guardR t56_64 (some (0 : Int)) 0 fun v_66 =>
  guardR t56_64 (some (decide (v_66 = 0))) false fun v_67 =>
  some (((bif t56_64 then v_67 else false), ()), ())

/-! ### shunter/batch.May -/
noncomputable def batch_May (u_0 : Int × Int × ((List (Int × Int × Int × Unit)) × (List (Int × Int × Int × Unit)) × Int × Int × (Int × (List (Int × Int × Int × Unit)) × Unit) × Unit) × Int × (List Int) × Unit) : Option ((Bool × Unit) × (Unit)) :=
  (batch_within u_0.1 0 4).bind fun r_1 =>
  bif !r_1.1.1 then
    some ((false, ()), ())
  else
  bif (decide (u_0.1 = 4)) then
    (batch_group (u_0.1, u_0.2.1, (u_0.2.2.1.1, u_0.2.2.1.2.1, u_0.2.2.1.2.2.1, u_0.2.2.1.2.2.2.1, (u_0.2.2.1.2.2.2.2.1.1, u_0.2.2.1.2.2.2.2.1.2.1, ()), ()), u_0.2.2.2.1, u_0.2.2.2.2.1, ())).bind fun r_3 =>
    some ((r_3.1.1, ()), ())
  else
  (batch_blank (u_0.2.2.1.1, u_0.2.2.1.2.1, u_0.2.2.1.2.2.1, u_0.2.2.1.2.2.2.1, (u_0.2.2.1.2.2.2.2.1.1, u_0.2.2.1.2.2.2.2.1.2.1, ()), ())).bind fun r_4 =>
  (batch_matches u_0.1).bind fun r_5 =>
  bif r_5.1.1 then
    (batch_match (u_0.2.2.1.1, u_0.2.2.1.2.1, u_0.2.2.1.2.2.1, u_0.2.2.1.2.2.2.1, (u_0.2.2.1.2.2.2.2.1.1, u_0.2.2.1.2.2.2.2.1.2.1, ()), ())).bind fun r_6 =>
    (batch_calls u_0.1).bind fun r_7 =>
    bif r_7.1.1 then
      guardR r_6.1.1 (some ()) () fun _ =>
      guardR r_6.1.1 (some (u_0.2.2.1.2.2.2.2.1.1, u_0.2.2.1.2.2.2.2.1.2.1, ())) (0, [], ()) fun v_8 =>
      guardR r_6.1.1 (batch_call v_8) ((false, ()), ()) fun r_9 =>
      let t31_10 : Bool := bif r_6.1.1 then r_9.1.1 else false
      guardR t31_10 (some ()) () fun _ =>
      guardR t31_10 (some u_0.2.1) 0 fun v_11 =>
      guardR t31_10 (batch_within v_11 0 255) ((false, ()), ()) fun r_12 =>
      let t51_13 : Bool := bif t31_10 then r_12.1.1 else false
      guardR t51_13 (some ()) () fun _ =>
      guardR t51_13 (some u_0.2.2.2.1) 0 fun v_14 =>
      guardR t51_13 (some (decide (v_14 = 0))) false fun v_15 =>
      let t56_16 : Bool := bif t51_13 then v_15 else false
      guardR t56_16 (some ()) () fun _ =>
      guardR t56_16 (some u_0.2.2.2.2.1) [] fun v_17 =>
      guardR t56_16 (some (v_17.length : Int)) 0 fun v_18 =>
      guardR t56_16 (some (decide (v_18 = 0))) false fun v_19 =>
      some (((bif t56_16 then v_19 else false), ()), ())
    else
    guardR r_6.1.1 (some ()) () fun _ =>
    guardR r_6.1.1 (some ()) () fun _ =>
    guardR r_6.1.1 (some u_0.2.2.1.2.2.2.2.1.1) 0 fun v_21 =>
    guardR r_6.1.1 (some (decide (v_21 = 0))) false fun v_22 =>
    let t38_23 : Bool := bif r_6.1.1 then v_22 else false
    guardR t38_23 (some ()) () fun _ =>
    guardR t38_23 (some ()) () fun _ =>
    guardR t38_23 (some u_0.2.2.1.2.2.2.2.1.2.1) [] fun v_24 =>
    guardR t38_23 (some (v_24.length : Int)) 0 fun v_25 =>
    guardR t38_23 (some (decide (v_25 = 0))) false fun v_26 =>
    let t45_27 : Bool := bif t38_23 then v_26 else false
    guardR t45_27 (some ()) () fun _ =>
    guardR t45_27 (some u_0.2.1) 0 fun v_28 =>
    guardR t45_27 (batch_within v_28 0 255) ((false, ()), ()) fun r_29 =>
    let t51_30 : Bool := bif t45_27 then r_29.1.1 else false
    guardR t51_30 (some ()) () fun _ =>
    guardR t51_30 (some u_0.2.2.2.1) 0 fun v_31 =>
    guardR t51_30 (some (decide (v_31 = 0))) false fun v_32 =>
    let t56_33 : Bool := bif t51_30 then v_32 else false
    guardR t56_33 (some ()) () fun _ =>
    guardR t56_33 (some u_0.2.2.2.2.1) [] fun v_34 =>
    guardR t56_33 (some (v_34.length : Int)) 0 fun v_35 =>
    guardR t56_33 (some (decide (v_35 = 0))) false fun v_36 =>
    some (((bif t56_33 then v_36 else false), ()), ())
  else
  (batch_calls u_0.1).bind fun r_38 =>
  bif r_38.1.1 then
    guardR r_4.1.1 (some ()) () fun _ =>
    guardR r_4.1.1 (some (u_0.2.2.1.2.2.2.2.1.1, u_0.2.2.1.2.2.2.2.1.2.1, ())) (0, [], ()) fun v_39 =>
    guardR r_4.1.1 (batch_call v_39) ((false, ()), ()) fun r_40 =>
    let t31_41 : Bool := bif r_4.1.1 then r_40.1.1 else false
    guardR t31_41 (some ()) () fun _ =>
    guardR t31_41 (some u_0.2.1) 0 fun v_42 =>
    guardR t31_41 (batch_within v_42 0 255) ((false, ()), ()) fun r_43 =>
    let t51_44 : Bool := bif t31_41 then r_43.1.1 else false
    guardR t51_44 (some ()) () fun _ =>
    guardR t51_44 (some u_0.2.2.2.1) 0 fun v_45 =>
    guardR t51_44 (some (decide (v_45 = 0))) false fun v_46 =>
    let t56_47 : Bool := bif t51_44 then v_46 else false
    guardR t56_47 (some ()) () fun _ =>
    guardR t56_47 (some u_0.2.2.2.2.1) [] fun v_48 =>
    guardR t56_47 (some (v_48.length : Int)) 0 fun v_49 =>
    guardR t56_47 (some (decide (v_49 = 0))) false fun v_50 =>
    some (((bif t56_47 then v_50 else false), ()), ())
  else
  guardR r_4.1.1 (some ()) () fun _ =>
  guardR r_4.1.1 (some ()) () fun _ =>
  guardR r_4.1.1 (some u_0.2.2.1.2.2.2.2.1.1) 0 fun v_52 =>
  guardR r_4.1.1 (some (decide (v_52 = 0))) false fun v_53 =>
  let t38_54 : Bool := bif r_4.1.1 then v_53 else false
  guardR t38_54 (some ()) () fun _ =>
  guardR t38_54 (some ()) () fun _ =>
  guardR t38_54 (some u_0.2.2.1.2.2.2.2.1.2.1) [] fun v_55 =>
  guardR t38_54 (some (v_55.length : Int)) 0 fun v_56 =>
  guardR t38_54 (some (decide (v_56 = 0))) false fun v_57 =>
  let t45_58 : Bool := bif t38_54 then v_57 else false
  guardR t45_58 (some ()) () fun _ =>
  guardR t45_58 (some u_0.2.1) 0 fun v_59 =>
  guardR t45_58 (batch_within v_59 0 255) ((false, ()), ()) fun r_60 =>
  let t51_61 : Bool := bif t45_58 then r_60.1.1 else false
  guardR t51_61 (some ()) () fun _ =>
  guardR t51_61 (some u_0.2.2.2.1) 0 fun v_62 =>
  guardR t51_61 (some (decide (v_62 = 0))) false fun v_63 =>
  let t56_64 : Bool := bif t51_61 then v_63 else false
  guardR t56_64 (some ()) () fun _ =>
  guardR t56_64 (some u_0.2.2.2.2.1) [] fun v_65 =>
  guardR t56_64 (some (v_65.length : Int)) 0 fun v_66 =>
  guardR t56_64 (some (decide (v_66 = 0))) false fun v_67 =>
  some (((bif t56_64 then v_67 else false), ()), ())

/-! ### shunter/batch.Encode$1 -/
noncomputable def batch_Encode_1_cc5 (u_0 : Int × Int × (Unit × Unit × Int × Int × (Int × Unit × Unit) × Unit) × Int × Unit × Unit) : Option ((Bool × Unit) × (Unit)) :=
  (batch_May_cc5 (u_0.1, u_0.2.1, (u_0.2.2.1.1, u_0.2.2.1.2.1, u_0.2.2.1.2.2.1, u_0.2.2.1.2.2.2.1, (u_0.2.2.1.2.2.2.2.1.1, u_0.2.2.1.2.2.2.2.1.2.1, ()), ()), u_0.2.2.2.1, u_0.2.2.2.2.1, ())).bind fun r_1 =>
  some ((!r_1.1.1, ()), ())

/-! ### shunter/batch.Encode$1 -/
noncomputable def batch_Encode_1 (u_0 : Int × Int × ((List (Int × Int × Int × Unit)) × (List (Int × Int × Int × Unit)) × Int × Int × (Int × (List (Int × Int × Int × Unit)) × Unit) × Unit) × Int × (List Int) × Unit) : Option ((Bool × Unit) × (Unit)) :=
  (batch_May (u_0.1, u_0.2.1, (u_0.2.2.1.1, u_0.2.2.1.2.1, u_0.2.2.1.2.2.1, u_0.2.2.1.2.2.2.1, (u_0.2.2.1.2.2.2.2.1.1, u_0.2.2.1.2.2.2.2.1.2.1, ()), ()), u_0.2.2.2.1, u_0.2.2.2.2.1, ())).bind fun r_1 =>
  some ((!r_1.1.1, ()), ())

/-! ### slices.IndexFunc[[]shunter/api.Update,shunter/api.Update] -/
noncomputable def slices_IndexFunc_api_Update_api_Update_b0c_s0 (s_0_0 : List (Int × Int × (Unit × Unit × Int × Int × (Int × Unit × Unit) × Unit) × Int × Unit × Unit)) (t7_7_0 : Int) (t8_8_0 : Int) : Option ((((List (Int × Int × (Unit × Unit × Int × Int × (Int × Unit × Unit) × Unit) × Int × Unit × Unit)) × Int × Int × Unit) × (Unit)) ⊕ ((Int × Unit) × (Unit))) :=
  bif (decide (t8_8_0 < t7_7_0)) then
    (rdI s_0_0 t8_8_0).bind fun v_3 =>
    (batch_Encode_1_cc5 v_3).bind fun r_4 =>
    bif r_4.1.1 then
      some (.inr ((t8_8_0, ()), ()))
    else
    some (.inl ((s_0_0, t7_7_0, (IntKind.i64.wrap (t8_8_0 + 1)), ()), ()))
  else
  some (.inr (((-1), ()), ()))
noncomputable def slices_IndexFunc_api_Update_api_Update_b0c (s_0 : List (Int × Int × (Unit × Unit × Int × Int × (Int × Unit × Unit) × Unit) × Int × Unit × Unit)) : Option ((Int × Unit) × (Unit)) :=
  loopR (fun (z : ((List (Int × Int × (Unit × Unit × Int × Int × (Int × Unit × Unit) × Unit) × Int × Unit × Unit)) × Int × Int × Unit) × (Unit)) => slices_IndexFunc_api_Update_api_Update_b0c_s0 z.1.1 z.1.2.1 z.1.2.2.1) ((s_0, (s_0.length : Int), 0, ()), ())

/-! ### slices.IndexFunc[[]shunter/api.Update,shunter/api.Update] -/
noncomputable def slices_IndexFunc_api_Update_api_Update_d99_s0 (s_0_0 : List (Int × Int × ((List (Int × Int × Int × Unit)) × (List (Int × Int × Int × Unit)) × Int × Int × (Int × (List (Int × Int × Int × Unit)) × Unit) × Unit) × Int × (List Int) × Unit)) (t7_7_0 : Int) (t8_8_0 : Int) : Option ((((List (Int × Int × ((List (Int × Int × Int × Unit)) × (List (Int × Int × Int × Unit)) × Int × Int × (Int × (List (Int × Int × Int × Unit)) × Unit) × Unit) × Int × (List Int) × Unit)) × Int × Int × Unit) × (Unit)) ⊕ ((Int × Unit) × (Unit))) :=
  bif (decide (t8_8_0 < t7_7_0)) then
    (rdI s_0_0 t8_8_0).bind fun v_3 =>
    (batch_Encode_1 v_3).bind fun r_4 =>
    bif r_4.1.1 then
      some (.inr ((t8_8_0, ()), ()))
    else
    some (.inl ((s_0_0, t7_7_0, (IntKind.i64.wrap (t8_8_0 + 1)), ()), ()))
  else
  some (.inr (((-1), ()), ()))
noncomputable def slices_IndexFunc_api_Update_api_Update_d99 (s_0 : List (Int × Int × ((List (Int × Int × Int × Unit)) × (List (Int × Int × Int × Unit)) × Int × Int × (Int × (List (Int × Int × Int × Unit)) × Unit) × Unit) × Int × (List Int) × Unit)) : Option ((Int × Unit) × (Unit)) :=
  loopR (fun (z : ((List (Int × Int × ((List (Int × Int × Int × Unit)) × (List (Int × Int × Int × Unit)) × Int × Int × (Int × (List (Int × Int × Int × Unit)) × Unit) × Unit) × Int × (List Int) × Unit)) × Int × Int × Unit) × (Unit)) => slices_IndexFunc_api_Update_api_Update_d99_s0 z.1.1 z.1.2.1 z.1.2.2.1) ((s_0, (s_0.length : Int), 0, ()), ())

/-! ### slices.ContainsFunc[[]shunter/api.Update,shunter/api.Update] -/
noncomputable def slices_ContainsFunc_api_Update_api_Update_b0c (s_0 : List (Int × Int × (Unit × Unit × Int × Int × (Int × Unit × Unit) × Unit) × Int × Unit × Unit)) : Option ((Bool × Unit) × (Unit)) :=
  (slices_IndexFunc_api_Update_api_Update_b0c s_0).bind fun r_1 =>
  some (((decide (r_1.1.1 ≥ 0)), ()), ())

/-! ### slices.ContainsFunc[[]shunter/api.Update,shunter/api.Update] -/
noncomputable def slices_ContainsFunc_api_Update_api_Update_d99 (s_0 : List (Int × Int × ((List (Int × Int × Int × Unit)) × (List (Int × Int × Int × Unit)) × Int × Int × (Int × (List (Int × Int × Int × Unit)) × Unit) × Unit) × Int × (List Int) × Unit)) : Option ((Bool × Unit) × (Unit)) :=
  (slices_IndexFunc_api_Update_api_Update_d99 s_0).bind fun r_1 =>
  some (((decide (r_1.1.1 ≥ 0)), ()), ())

/-! ### shunter/batch.one -/
noncomputable def batch_one_0f3 (b_0 : List Int) (u_1 : Int × Int × (Unit × Unit × Int × Int × (Int × Unit × Unit) × Unit) × Int × Unit × Unit) : Option (((List Int) × Unit) × (Unit)) :=
  (wire_Byte b_0 u_1.1).bind fun r_1 =>
  bif (decide (u_1.1 = 4)) then
    (wire_Byte r_1.1.1 u_1.2.2.2.1).bind fun r_3 =>
    (wire_Numbers r_3.1.1 []).bind fun r_4 =>
    some ((r_4.1.1, ()), ())
  else
  (wire_Byte r_1.1.1 u_1.2.1).bind fun r_5 =>
  (batch_matches u_1.1).bind fun r_6 =>
  bif r_6.1.1 then
    (wire_Vecs r_5.1.1 []).bind fun r_7 =>
    (wire_Vecs r_7.1.1 []).bind fun r_8 =>
    (wire_Two r_8.1.1 u_1.2.2.1.2.2.1).bind fun r_9 =>
    (wire_Two r_9.1.1 u_1.2.2.1.2.2.2.1).bind fun r_10 =>
    (batch_calls u_1.1).bind fun r_11 =>
    bif r_11.1.1 then
      (wire_Byte r_10.1.1 u_1.2.2.1.2.2.2.2.1.1).bind fun r_12 =>
      (wire_Vecs r_12.1.1 []).bind fun r_13 =>
      some ((r_13.1.1, ()), ())
    else
    some ((r_10.1.1, ()), ())
  else
  (batch_calls u_1.1).bind fun r_14 =>
  bif r_14.1.1 then
    (wire_Byte r_5.1.1 u_1.2.2.1.2.2.2.2.1.1).bind fun r_15 =>
    (wire_Vecs r_15.1.1 []).bind fun r_16 =>
    some ((r_16.1.1, ()), ())
  else
  some ((r_5.1.1, ()), ())

/-! ### shunter/batch.one -/
noncomputable def batch_one (b_0 : List Int) (u_1 : Int × Int × ((List (Int × Int × Int × Unit)) × (List (Int × Int × Int × Unit)) × Int × Int × (Int × (List (Int × Int × Int × Unit)) × Unit) × Unit) × Int × (List Int) × Unit) : Option (((List Int) × Unit) × (Unit)) :=
  (wire_Byte b_0 u_1.1).bind fun r_1 =>
  bif (decide (u_1.1 = 4)) then
    (wire_Byte r_1.1.1 u_1.2.2.2.1).bind fun r_3 =>
    (wire_Numbers r_3.1.1 u_1.2.2.2.2.1).bind fun r_4 =>
    some ((r_4.1.1, ()), ())
  else
  (wire_Byte r_1.1.1 u_1.2.1).bind fun r_5 =>
  (batch_matches u_1.1).bind fun r_6 =>
  bif r_6.1.1 then
    (wire_Vecs r_5.1.1 u_1.2.2.1.1).bind fun r_7 =>
    (wire_Vecs r_7.1.1 u_1.2.2.1.2.1).bind fun r_8 =>
    (wire_Two r_8.1.1 u_1.2.2.1.2.2.1).bind fun r_9 =>
    (wire_Two r_9.1.1 u_1.2.2.1.2.2.2.1).bind fun r_10 =>
    (batch_calls u_1.1).bind fun r_11 =>
    bif r_11.1.1 then
      (wire_Byte r_10.1.1 u_1.2.2.1.2.2.2.2.1.1).bind fun r_12 =>
      (wire_Vecs r_12.1.1 u_1.2.2.1.2.2.2.2.1.2.1).bind fun r_13 =>
      some ((r_13.1.1, ()), ())
    else
    some ((r_10.1.1, ()), ())
  else
  (batch_calls u_1.1).bind fun r_14 =>
  bif r_14.1.1 then
    (wire_Byte r_5.1.1 u_1.2.2.1.2.2.2.2.1.1).bind fun r_15 =>
    (wire_Vecs r_15.1.1 u_1.2.2.1.2.2.2.2.1.2.1).bind fun r_16 =>
    some ((r_16.1.1, ()), ())
  else
  some ((r_5.1.1, ()), ())

/-! ### shunter/batch.Encode -/
noncomputable def batch_Encode_f85_s1 (b_4_1 : List Int) (t17_17_1 : List (Int × Int × (Unit × Unit × Int × Int × (Int × Unit × Unit) × Unit) × Int × Unit × Unit)) (t18_18_1 : Int) (t19_19_1 : Int) : Option ((((List Int) × (List (Int × Int × (Unit × Unit × Int × Int × (Int × Unit × Unit) × Unit) × Int × Unit × Unit)) × Int × Int × Unit) × (Unit)) ⊕ (((List Int) × Int × Unit) × (Unit))) :=
  bif (decide (t19_19_1 < t18_18_1)) then
    (rdI t17_17_1 t19_19_1).bind fun v_8 =>
    (batch_one_0f3 b_4_1 v_8).bind fun r_9 =>
    some (.inl ((r_9.1.1, t17_17_1, t18_18_1, (IntKind.i64.wrap (t19_19_1 + 1)), ()), ()))
  else
  some (.inr ((b_4_1, 0, ()), ()))
noncomputable def batch_Encode_f85 (l_0 : List (Int × Int × (Unit × Unit × Int × Int × (Int × Unit × Unit) × Unit) × Int × Unit × Unit)) : Option (((List Int) × Int × Unit) × (Unit)) :=
  bif (decide ((l_0.length : Int) > 64)) then
    some (([], 2, ()), ())
  else
  (slices_ContainsFunc_api_Update_api_Update_b0c l_0).bind fun r_3 =>
  bif r_3.1.1 then
    some (([], 1, ()), ())
  else
  (wire_Byte [] (l_0.length : Int)).bind fun r_5 =>
  loopR (fun (z : ((List Int) × (List (Int × Int × (Unit × Unit × Int × Int × (Int × Unit × Unit) × Unit) × Int × Unit × Unit)) × Int × Int × Unit) × (Unit)) => batch_Encode_f85_s1 z.1.1 z.1.2.1 z.1.2.2.1 z.1.2.2.2.1) ((r_5.1.1, l_0, (l_0.length : Int), 0, ()), ())

/-! ### shunter/batch.Encode -/
noncomputable def batch_Encode_s1 (b_4_1 : List Int) (t17_17_1 : List (Int × Int × ((List (Int × Int × Int × Unit)) × (List (Int × Int × Int × Unit)) × Int × Int × (Int × (List (Int × Int × Int × Unit)) × Unit) × Unit) × Int × (List Int) × Unit)) (t18_18_1 : Int) (t19_19_1 : Int) : Option ((((List Int) × (List (Int × Int × ((List (Int × Int × Int × Unit)) × (List (Int × Int × Int × Unit)) × Int × Int × (Int × (List (Int × Int × Int × Unit)) × Unit) × Unit) × Int × (List Int) × Unit)) × Int × Int × Unit) × (Unit)) ⊕ (((List Int) × Int × Unit) × (Unit))) :=
  bif (decide (t19_19_1 < t18_18_1)) then
    (rdI t17_17_1 t19_19_1).bind fun v_8 =>
    (batch_one b_4_1 v_8).bind fun r_9 =>
    some (.inl ((r_9.1.1, t17_17_1, t18_18_1, (IntKind.i64.wrap (t19_19_1 + 1)), ()), ()))
  else
  some (.inr ((b_4_1, 0, ()), ()))
noncomputable def batch_Encode (l_0 : List (Int × Int × ((List (Int × Int × Int × Unit)) × (List (Int × Int × Int × Unit)) × Int × Int × (Int × (List (Int × Int × Int × Unit)) × Unit) × Unit) × Int × (List Int) × Unit)) : Option (((List Int) × Int × Unit) × (Unit)) :=
  bif (decide ((l_0.length : Int) > 64)) then
    some (([], 2, ()), ())
  else
  (slices_ContainsFunc_api_Update_api_Update_d99 l_0).bind fun r_3 =>
  bif r_3.1.1 then
    some (([], 1, ()), ())
  else
  (wire_Byte [] (l_0.length : Int)).bind fun r_5 =>
  loopR (fun (z : ((List Int) × (List (Int × Int × ((List (Int × Int × Int × Unit)) × (List (Int × Int × Int × Unit)) × Int × Int × (Int × (List (Int × Int × Int × Unit)) × Unit) × Unit) × Int × (List Int) × Unit)) × Int × Int × Unit) × (Unit)) => batch_Encode_s1 z.1.1 z.1.2.1 z.1.2.2.1 z.1.2.2.2.1) ((r_5.1.1, l_0, (l_0.length : Int), 0, ()), ())

/-! ### shunter/shunterref25.rows -/
noncomputable def ref25_rows_s0 (l_0_0 : List (Int × Int × Int × Unit)) (most_1_0 : Int) (i_5_0 : Int) : Option ((((List (Int × Int × Int × Unit)) × Int × Int × Unit) × (Unit)) ⊕ ((Bool × Unit) × (Unit))) :=
  bif (decide (i_5_0 < (l_0_0.length : Int))) then
    (rdI l_0_0 i_5_0).bind fun v_3 =>
    (ref02_May v_3).bind fun r_4 =>
    bif !r_4.1.1 then
      some (.inr ((false, ()), ()))
    else
    some (.inl ((l_0_0, most_1_0, (IntKind.i64.wrap (i_5_0 + 1)), ()), ()))
  else
  some (.inr (((decide ((l_0_0.length : Int) ≤ most_1_0)), ()), ()))
noncomputable def ref25_rows (l_0 : List (Int × Int × Int × Unit)) (most_1 : Int) : Option ((Bool × Unit) × (Unit)) :=
  loopR (fun (z : ((List (Int × Int × Int × Unit)) × Int × Int × Unit) × (Unit)) => ref25_rows_s0 z.1.1 z.1.2.1 z.1.2.2.1) ((l_0, most_1, 0, ()), ())

/-! ### shunter/shunterref25.in -/
noncomputable def ref25_in (n_0 : Int) (most_1 : Int) : Option ((Bool × Unit) × (Unit)) :=
  let t6_1 : Bool := decide (n_0 ≥ 0)
  guardR t6_1 (some ()) () fun _ =>
  guardR t6_1 (some ()) () fun _ =>
  guardR t6_1 (some (decide (n_0 ≤ most_1))) false fun v_2 =>
  some (((bif t6_1 then v_2 else false), ()), ())

/-! ### shunter/shunterref25.May -/
noncomputable def ref25_May_s1 (noRows_4_1 : Bool) (noCall_5_1 : Bool) (i_9_1 : Int) (p1_0_1 : Int × Int × ((List (Int × Int × Int × Unit)) × (List (Int × Int × Int × Unit)) × Int × Int × (Int × (List (Int × Int × Int × Unit)) × Unit) × Unit) × Int × (List Int) × Unit) : Option (((Bool × Bool × Int × Unit) × ((Int × Int × ((List (Int × Int × Int × Unit)) × (List (Int × Int × Int × Unit)) × Int × Int × (Int × (List (Int × Int × Int × Unit)) × Unit) × Unit) × Int × (List Int) × Unit) × Unit)) ⊕ ((Bool × Unit) × (Unit))) :=
  bif (decide (i_9_1 < (p1_0_1.2.2.2.2.1.length : Int))) then
    (rdI p1_0_1.2.2.2.2.1 i_9_1).bind fun v_52 =>
    (ref25_in v_52 255).bind fun r_53 =>
    bif !r_53.1.1 then
      some (.inr ((false, ()), ()))
    else
    some (.inl ((noRows_4_1, noCall_5_1, (IntKind.i64.wrap (i_9_1 + 1)), ()), (p1_0_1.1, p1_0_1.2.1, (p1_0_1.2.2.1.1, p1_0_1.2.2.1.2.1, p1_0_1.2.2.1.2.2.1, p1_0_1.2.2.1.2.2.2.1, (p1_0_1.2.2.1.2.2.2.2.1.1, p1_0_1.2.2.1.2.2.2.2.1.2.1, ()), ()), p1_0_1.2.2.2.1, p1_0_1.2.2.2.2.1, ()), ()))
  else
  let t133_55 : Bool := decide (p1_0_1.2.1 = 0)
  (guardR t133_55 (some ()) () fun _ =>
  let t136_56 : Bool := bif t133_55 then noRows_4_1 else false
  guardR t136_56 (some ()) () fun _ =>
  let t139_57 : Bool := bif t136_56 then noCall_5_1 else false
  guardR t139_57 (some ()) () fun _ =>
  guardR t139_57 (some p1_0_1.2.2.2.1) 0 fun v_58 =>
  guardR t139_57 (ref25_in v_58 255) ((false, ()), ()) fun r_59 =>
  let t144_60 : Bool := bif t139_57 then r_59.1.1 else false
  guardR t144_60 (some ()) () fun _ =>
  guardR t144_60 (some p1_0_1.2.2.2.2.1) [] fun v_61 =>
  guardR t144_60 (some (v_61.length : Int)) 0 fun v_62 =>
  guardR t144_60 (some (decide (v_62 ≤ 64))) false fun v_63 =>
  some (((bif t144_60 then v_63 else false), ()), ())).map .inr
noncomputable def ref25_May (u_0 : Int × Int × ((List (Int × Int × Int × Unit)) × (List (Int × Int × Int × Unit)) × Int × Int × (Int × (List (Int × Int × Int × Unit)) × Unit) × Unit) × Int × (List Int) × Unit) : Option ((Bool × Unit) × (Unit)) :=
  let t15_2 : Bool := decide ((u_0.2.2.1.1.length : Int) = 0)
  guardR t15_2 (some ()) () fun _ =>
  guardR t15_2 (some u_0.2.2.1.2.1) [] fun v_3 =>
  guardR t15_2 (some (v_3.length : Int)) 0 fun v_4 =>
  guardR t15_2 (some (decide (v_4 = 0))) false fun v_5 =>
  let t21_6 : Bool := bif t15_2 then v_5 else false
  guardR t21_6 (some ()) () fun _ =>
  guardR t21_6 (some u_0.2.2.1.2.2.1) 0 fun v_7 =>
  guardR t21_6 (some (decide (v_7 = 0))) false fun v_8 =>
  let t26_9 : Bool := bif t21_6 then v_8 else false
  guardR t26_9 (some ()) () fun _ =>
  guardR t26_9 (some u_0.2.2.1.2.2.2.1) 0 fun v_10 =>
  guardR t26_9 (some (decide (v_10 = 0))) false fun v_11 =>
  let t31_12 : Bool := bif t26_9 then v_11 else false
  let t35_13 : Bool := decide (u_0.2.2.1.2.2.2.2.1.1 = 0)
  guardR t35_13 (some ()) () fun _ =>
  guardR t35_13 (some ()) () fun _ =>
  guardR t35_13 (some u_0.2.2.1.2.2.2.2.1.2.1) [] fun v_14 =>
  guardR t35_13 (some (v_14.length : Int)) 0 fun v_15 =>
  guardR t35_13 (some (decide (v_15 = 0))) false fun v_16 =>
  let t42_17 : Bool := bif t35_13 then v_16 else false
  (ref25_rows u_0.2.2.1.1 4).bind fun r_18 =>
  guardR r_18.1.1 (some ()) () fun _ =>
  guardR r_18.1.1 (some u_0.2.2.1.2.1) [] fun v_19 =>
  guardR r_18.1.1 (ref25_rows v_19 4) ((false, ()), ()) fun r_20 =>
  let t50_21 : Bool := bif r_18.1.1 then r_20.1.1 else false
  guardR t50_21 (some ()) () fun _ =>
  guardR t50_21 (some u_0.2.2.1.2.2.1) 0 fun v_22 =>
  guardR t50_21 (ref25_in v_22 65535) ((false, ()), ()) fun r_23 =>
  let t55_24 : Bool := bif t50_21 then r_23.1.1 else false
  guardR t55_24 (some ()) () fun _ =>
  guardR t55_24 (some u_0.2.2.1.2.2.2.1) 0 fun v_25 =>
  guardR t55_24 (ref25_in v_25 65535) ((false, ()), ()) fun r_26 =>
  let t60_27 : Bool := bif t55_24 then r_26.1.1 else false
  (ref25_in u_0.2.2.1.2.2.2.2.1.1 255).bind fun r_28 =>
  guardR r_28.1.1 (some ()) () fun _ =>
  guardR r_28.1.1 (some ()) () fun _ =>
  guardR r_28.1.1 (some u_0.2.2.1.2.2.2.2.1.2.1) [] fun v_29 =>
  guardR r_28.1.1 (ref25_rows v_29 8) ((false, ()), ()) fun r_30 =>
  let t70_31 : Bool := bif r_28.1.1 then r_30.1.1 else false
  (ref25_in u_0.2.1 255).bind fun r_32 =>
  guardR r_32.1.1 (some ()) () fun _ =>
  guardR r_32.1.1 (some u_0.2.2.2.1) 0 fun v_33 =>
  guardR r_32.1.1 (some (decide (v_33 = 0))) false fun v_34 =>
  let t78_35 : Bool := bif r_32.1.1 then v_34 else false
  guardR t78_35 (some ()) () fun _ =>
  guardR t78_35 (some u_0.2.2.2.2.1) [] fun v_36 =>
  guardR t78_35 (some (v_36.length : Int)) 0 fun v_37 =>
  guardR t78_35 (some (decide (v_37 = 0))) false fun v_38 =>
  let t84_39 : Bool := bif t78_35 then v_38 else false
  let t88_40 : Bool := decide (u_0.1 = 0)
  bif t88_40 then
    bif t88_40 then
      guardR t84_39 (some ()) () fun _ =>
      let t93_41 : Bool := bif t84_39 then t60_27 else false
      guardR t93_41 (some ()) () fun _ =>
      some (((bif t93_41 then t70_31 else false), ()), ())
    else
    bif (decide (u_0.1 = 2)) then
      guardR t84_39 (some ()) () fun _ =>
      let t102_44 : Bool := bif t84_39 then t60_27 else false
      guardR t102_44 (some ()) () fun _ =>
      some (((bif t102_44 then t42_17 else false), ()), ())
    else
    bif (decide (u_0.1 = 3)) then
      guardR t84_39 (some ()) () fun _ =>
      let t111_47 : Bool := bif t84_39 then t31_12 else false
      guardR t111_47 (some ()) () fun _ =>
      some (((bif t111_47 then t70_31 else false), ()), ())
    else
    bif (decide (u_0.1 = 4)) then
      loopR (fun (z : (Bool × Bool × Int × Unit) × ((Int × Int × ((List (Int × Int × Int × Unit)) × (List (Int × Int × Int × Unit)) × Int × Int × (Int × (List (Int × Int × Int × Unit)) × Unit) × Unit) × Int × (List Int) × Unit) × Unit)) => ref25_May_s1 z.1.1 z.1.2.1 z.1.2.2.1 z.2.1) ((t31_12, t42_17, 0, ()), (u_0.1, u_0.2.1, (u_0.2.2.1.1, u_0.2.2.1.2.1, u_0.2.2.1.2.2.1, u_0.2.2.1.2.2.2.1, (u_0.2.2.1.2.2.2.2.1.1, u_0.2.2.1.2.2.2.2.1.2.1, ()), ()), u_0.2.2.2.1, u_0.2.2.2.2.1, ()), ())
    else
    some ((false, ()), ())
  else
  bif (decide (u_0.1 = 1)) then
    guardR t84_39 (some ()) () fun _ =>
    let t93_66 : Bool := bif t84_39 then t60_27 else false
    guardR t93_66 (some ()) () fun _ =>
    some (((bif t93_66 then t70_31 else false), ()), ())
  else
  bif (decide (u_0.1 = 2)) then
    guardR t84_39 (some ()) () fun _ =>
    let t102_69 : Bool := bif t84_39 then t60_27 else false
    guardR t102_69 (some ()) () fun _ =>
    some (((bif t102_69 then t42_17 else false), ()), ())
  else
  bif (decide (u_0.1 = 3)) then
    guardR t84_39 (some ()) () fun _ =>
    let t111_72 : Bool := bif t84_39 then t31_12 else false
    guardR t111_72 (some ()) () fun _ =>
    some (((bif t111_72 then t70_31 else false), ()), ())
  else
  bif (decide (u_0.1 = 4)) then
    loopR (fun (z : (Bool × Bool × Int × Unit) × ((Int × Int × ((List (Int × Int × Int × Unit)) × (List (Int × Int × Int × Unit)) × Int × Int × (Int × (List (Int × Int × Int × Unit)) × Unit) × Unit) × Int × (List Int) × Unit) × Unit)) => ref25_May_s1 z.1.1 z.1.2.1 z.1.2.2.1 z.2.1) ((t31_12, t42_17, 0, ()), (u_0.1, u_0.2.1, (u_0.2.2.1.1, u_0.2.2.1.2.1, u_0.2.2.1.2.2.1, u_0.2.2.1.2.2.2.1, (u_0.2.2.1.2.2.2.2.1.1, u_0.2.2.1.2.2.2.2.1.2.1, ()), ()), u_0.2.2.2.1, u_0.2.2.2.2.1, ()), ())
  else
  some ((false, ()), ())

/-! ### shunter/shunterref25.vecs -/
noncomputable def ref25_vecs_s0 (l_0_0 : List (Int × Int × Int × Unit)) (b_3_0 : List Int) (i_4_0 : Int) : Option ((((List (Int × Int × Int × Unit)) × (List Int) × Int × Unit) × (Unit)) ⊕ (((List Int) × Unit) × (Unit))) :=
  bif (decide (i_4_0 < (l_0_0.length : Int))) then
    (rdI l_0_0 i_4_0).bind fun v_5 =>
    (ref07_Vec v_5).bind fun r_6 =>
    (roomI 1 b_3_0 r_6.1.1).bind fun v_7 =>
    some (.inl ((l_0_0, v_7, (IntKind.i64.wrap (i_4_0 + 1)), ()), ()))
  else
  some (.inr ((b_3_0, ()), ()))
noncomputable def ref25_vecs (l_0 : List (Int × Int × Int × Unit)) : Option (((List Int) × Unit) × (Unit)) :=
  (ref07_Number (l_0.length : Int) 1).bind fun r_2 =>
  loopR (fun (z : ((List (Int × Int × Int × Unit)) × (List Int) × Int × Unit) × (Unit)) => ref25_vecs_s0 z.1.1 z.1.2.1 z.1.2.2.1) ((l_0, r_2.1.1, 0, ()), ())

/-! ### shunter/shunterref25.Bytes -/
noncomputable def ref25_Bytes_s0 (b_3_0 : List Int) (i_4_0 : Int) (p1_0_0 : Int × Int × ((List (Int × Int × Int × Unit)) × (List (Int × Int × Int × Unit)) × Int × Int × (Int × (List (Int × Int × Int × Unit)) × Unit) × Unit) × Int × (List Int) × Unit) : Option ((((List Int) × Int × Unit) × ((Int × Int × ((List (Int × Int × Int × Unit)) × (List (Int × Int × Int × Unit)) × Int × Int × (Int × (List (Int × Int × Int × Unit)) × Unit) × Unit) × Int × (List Int) × Unit) × Unit)) ⊕ (((List Int) × Unit) × (Unit))) :=
  bif (decide (i_4_0 < (p1_0_0.2.2.2.2.1.length : Int))) then
    (rdI p1_0_0.2.2.2.2.1 i_4_0).bind fun v_10 =>
    (ref07_Number v_10 1).bind fun r_11 =>
    (roomI 1 b_3_0 r_11.1.1).bind fun v_12 =>
    some (.inl ((v_12, (IntKind.i64.wrap (i_4_0 + 1)), ()), (p1_0_0.1, p1_0_0.2.1, (p1_0_0.2.2.1.1, p1_0_0.2.2.1.2.1, p1_0_0.2.2.1.2.2.1, p1_0_0.2.2.1.2.2.2.1, (p1_0_0.2.2.1.2.2.2.2.1.1, p1_0_0.2.2.1.2.2.2.2.1.2.1, ()), ()), p1_0_0.2.2.2.1, p1_0_0.2.2.2.2.1, ()), ()))
  else
  some (.inr ((b_3_0, ()), ()))
noncomputable def ref25_Bytes (u_0 : Int × Int × ((List (Int × Int × Int × Unit)) × (List (Int × Int × Int × Unit)) × Int × Int × (Int × (List (Int × Int × Int × Unit)) × Unit) × Unit) × Int × (List Int) × Unit) : Option (((List Int) × Unit) × (Unit)) :=
  (ref07_Number u_0.1 1).bind fun r_1 =>
  bif (decide (u_0.1 = 4)) then
    (ref07_Number u_0.2.2.2.1 1).bind fun r_3 =>
    (roomI 1 r_1.1.1 r_3.1.1).bind fun v_4 =>
    (ref07_Number (u_0.2.2.2.2.1.length : Int) 1).bind fun r_6 =>
    (roomI 1 v_4 r_6.1.1).bind fun v_7 =>
    loopR (fun (z : ((List Int) × Int × Unit) × ((Int × Int × ((List (Int × Int × Int × Unit)) × (List (Int × Int × Int × Unit)) × Int × Int × (Int × (List (Int × Int × Int × Unit)) × Unit) × Unit) × Int × (List Int) × Unit) × Unit)) => ref25_Bytes_s0 z.1.1 z.1.2.1 z.2.1) ((v_7, 0, ()), (u_0.1, u_0.2.1, (u_0.2.2.1.1, u_0.2.2.1.2.1, u_0.2.2.1.2.2.1, u_0.2.2.1.2.2.2.1, (u_0.2.2.1.2.2.2.2.1.1, u_0.2.2.1.2.2.2.2.1.2.1, ()), ()), u_0.2.2.2.1, u_0.2.2.2.2.1, ()), ())
  else
  (ref07_Number u_0.2.1 1).bind fun r_14 =>
  (roomI 1 r_1.1.1 r_14.1.1).bind fun v_15 =>
  bif (!decide (u_0.1 = 3)) then
    (ref25_vecs u_0.2.2.1.1).bind fun r_17 =>
    (roomI 1 v_15 r_17.1.1).bind fun v_18 =>
    (ref25_vecs u_0.2.2.1.2.1).bind fun r_19 =>
    (roomI 1 v_18 r_19.1.1).bind fun v_20 =>
    (ref07_Number u_0.2.2.1.2.2.1 2).bind fun r_21 =>
    (roomI 1 v_20 r_21.1.1).bind fun v_22 =>
    (ref07_Number u_0.2.2.1.2.2.2.1 2).bind fun r_23 =>
    (roomI 1 v_22 r_23.1.1).bind fun v_24 =>
    bif (!decide (u_0.1 = 2)) then
      (ref07_Number u_0.2.2.1.2.2.2.2.1.1 1).bind fun r_26 =>
      (roomI 1 v_24 r_26.1.1).bind fun v_27 =>
      (ref25_vecs u_0.2.2.1.2.2.2.2.1.2.1).bind fun r_28 =>
      (roomI 1 v_27 r_28.1.1).bind fun v_29 =>
      some ((v_29, ()), ())
    else
    some ((v_24, ()), ())
  else
  bif (!decide (u_0.1 = 2)) then
    (ref07_Number u_0.2.2.1.2.2.2.2.1.1 1).bind fun r_31 =>
    (roomI 1 v_15 r_31.1.1).bind fun v_32 =>
    (ref25_vecs u_0.2.2.1.2.2.2.2.1.2.1).bind fun r_33 =>
    (roomI 1 v_32 r_33.1.1).bind fun v_34 =>
    some ((v_34, ()), ())
  else
  some ((v_15, ()), ())

/-! ### shunter/batch.same -/
noncomputable def batch_same (a_0 : Int × (List (Int × Int × Int × Unit)) × Unit) (b_1 : Int × (List (Int × Int × Int × Unit)) × Unit) : Option ((Bool × Unit) × (Unit)) :=
  let t9_1 : Bool := decide (a_0.1 = b_1.1)
  guardR t9_1 (some ()) () fun _ =>
  guardR t9_1 (some a_0.2.1) [] fun v_2 =>
  guardR t9_1 (some ()) () fun _ =>
  guardR t9_1 (some b_1.2.1) [] fun v_3 =>
  guardR t9_1 (slices_Equal_api_Vec_api_Vec v_2 v_3) ((false, ()), ()) fun r_4 =>
  some (((bif t9_1 then r_4.1.1 else false), ()), ())

/-! ### shunter/batch.Same -/
noncomputable def batch_Same (a_0 : Int × Int × ((List (Int × Int × Int × Unit)) × (List (Int × Int × Int × Unit)) × Int × Int × (Int × (List (Int × Int × Int × Unit)) × Unit) × Unit) × Int × (List Int) × Unit) (b_1 : Int × Int × ((List (Int × Int × Int × Unit)) × (List (Int × Int × Int × Unit)) × Int × Int × (Int × (List (Int × Int × Int × Unit)) × Unit) × Unit) × Int × (List Int) × Unit) : Option ((Bool × Unit) × (Unit)) :=
  (slices_Equal_api_Vec_api_Vec a_0.2.2.1.1 b_1.2.2.1.1).bind fun r_1 =>
  guardR r_1.1.1 (some ()) () fun _ =>
  guardR r_1.1.1 (some a_0.2.2.1.2.1) [] fun v_2 =>
  guardR r_1.1.1 (some ()) () fun _ =>
  guardR r_1.1.1 (some b_1.2.2.1.2.1) [] fun v_3 =>
  guardR r_1.1.1 (slices_Equal_api_Vec_api_Vec v_2 v_3) ((false, ()), ()) fun r_4 =>
  let t23_5 : Bool := bif r_1.1.1 then r_4.1.1 else false
  guardR t23_5 (some ()) () fun _ =>
  guardR t23_5 (some a_0.2.2.1.2.2.1) 0 fun v_6 =>
  guardR t23_5 (some ()) () fun _ =>
  guardR t23_5 (some b_1.2.2.1.2.2.1) 0 fun v_7 =>
  guardR t23_5 (some (decide (v_6 = v_7))) false fun v_8 =>
  let t30_9 : Bool := bif t23_5 then v_8 else false
  guardR t30_9 (some ()) () fun _ =>
  guardR t30_9 (some a_0.2.2.1.2.2.2.1) 0 fun v_10 =>
  guardR t30_9 (some ()) () fun _ =>
  guardR t30_9 (some b_1.2.2.1.2.2.2.1) 0 fun v_11 =>
  guardR t30_9 (some (decide (v_10 = v_11))) false fun v_12 =>
  let t42_14 : Bool := decide (a_0.1 = b_1.1)
  guardR t42_14 (some ()) () fun _ =>
  guardR t42_14 (some a_0.2.1) 0 fun v_15 =>
  guardR t42_14 (some ()) () fun _ =>
  guardR t42_14 (some b_1.2.1) 0 fun v_16 =>
  guardR t42_14 (some (decide (v_15 = v_16))) false fun v_17 =>
  let t49_18 : Bool := bif t42_14 then v_17 else false
  guardR t49_18 (some ()) () fun _ =>
  let t52_19 : Bool := bif t49_18 then (bif t30_9 then v_12 else false) else false
  guardR t52_19 (some ()) () fun _ =>
  guardR t52_19 (some (a_0.2.2.1.2.2.2.2.1.1, a_0.2.2.1.2.2.2.2.1.2.1, ())) (0, [], ()) fun v_20 =>
  guardR t52_19 (some ()) () fun _ =>
  guardR t52_19 (some (b_1.2.2.1.2.2.2.2.1.1, b_1.2.2.1.2.2.2.2.1.2.1, ())) (0, [], ()) fun v_21 =>
  guardR t52_19 (batch_same v_20 v_21) ((false, ()), ()) fun r_22 =>
  let t59_23 : Bool := bif t52_19 then r_22.1.1 else false
  guardR t59_23 (some ()) () fun _ =>
  guardR t59_23 (some a_0.2.2.2.1) 0 fun v_24 =>
  guardR t59_23 (some ()) () fun _ =>
  guardR t59_23 (some b_1.2.2.2.1) 0 fun v_25 =>
  guardR t59_23 (some (decide (v_24 = v_25))) false fun v_26 =>
  let t66_27 : Bool := bif t59_23 then v_26 else false
  guardR t66_27 (some ()) () fun _ =>
  guardR t66_27 (some a_0.2.2.2.2.1) [] fun v_28 =>
  guardR t66_27 (some ()) () fun _ =>
  guardR t66_27 (some b_1.2.2.2.2.1) [] fun v_29 =>
  guardR t66_27 (slices_Equal_int_int v_28 v_29) ((false, ()), ()) fun r_30 =>
  some (((bif t66_27 then r_30.1.1 else false), ()), ())

/-! ### shunter/shunterref25.Same -/
noncomputable def ref25_Same_s0 (i_7_0 : Int) (p2_0_0 : Int × Int × ((List (Int × Int × Int × Unit)) × (List (Int × Int × Int × Unit)) × Int × Int × (Int × (List (Int × Int × Int × Unit)) × Unit) × Unit) × Int × (List Int) × Unit) (p3_0_0 : Int × Int × ((List (Int × Int × Int × Unit)) × (List (Int × Int × Int × Unit)) × Int × Int × (Int × (List (Int × Int × Int × Unit)) × Unit) × Unit) × Int × (List Int) × Unit) (p5_0_0 : (List (Int × Int × Int × Unit)) × (List (Int × Int × Int × Unit)) × Int × Int × (Int × (List (Int × Int × Int × Unit)) × Unit) × Unit) (p6_0_0 : (List (Int × Int × Int × Unit)) × (List (Int × Int × Int × Unit)) × Int × Int × (Int × (List (Int × Int × Int × Unit)) × Unit) × Unit) : Option (((Int × Unit) × ((Int × Int × ((List (Int × Int × Int × Unit)) × (List (Int × Int × Int × Unit)) × Int × Int × (Int × (List (Int × Int × Int × Unit)) × Unit) × Unit) × Int × (List Int) × Unit) × (Int × Int × ((List (Int × Int × Int × Unit)) × (List (Int × Int × Int × Unit)) × Int × Int × (Int × (List (Int × Int × Int × Unit)) × Unit) × Unit) × Int × (List Int) × Unit) × ((List (Int × Int × Int × Unit)) × (List (Int × Int × Int × Unit)) × Int × Int × (Int × (List (Int × Int × Int × Unit)) × Unit) × Unit) × ((List (Int × Int × Int × Unit)) × (List (Int × Int × Int × Unit)) × Int × Int × (Int × (List (Int × Int × Int × Unit)) × Unit) × Unit) × Unit)) ⊕ ((Bool × Unit) × (Unit))) :=
  bif (decide (i_7_0 < (p2_0_0.2.2.2.2.1.length : Int))) then
    (rdI p2_0_0.2.2.2.2.1 i_7_0).bind fun v_6 =>
    (rdI p3_0_0.2.2.2.2.1 i_7_0).bind fun v_7 =>
    bif (!decide (v_6 = v_7)) then
      some (.inr ((false, ()), ()))
    else
    some (.inl (((IntKind.i64.wrap (i_7_0 + 1)), ()), (p2_0_0.1, p2_0_0.2.1, (p2_0_0.2.2.1.1, p2_0_0.2.2.1.2.1, p2_0_0.2.2.1.2.2.1, p2_0_0.2.2.1.2.2.2.1, (p2_0_0.2.2.1.2.2.2.2.1.1, p2_0_0.2.2.1.2.2.2.2.1.2.1, ()), ()), p2_0_0.2.2.2.1, p2_0_0.2.2.2.2.1, ()), (p3_0_0.1, p3_0_0.2.1, (p3_0_0.2.2.1.1, p3_0_0.2.2.1.2.1, p3_0_0.2.2.1.2.2.1, p3_0_0.2.2.1.2.2.2.1, (p3_0_0.2.2.1.2.2.2.2.1.1, p3_0_0.2.2.1.2.2.2.2.1.2.1, ()), ()), p3_0_0.2.2.2.1, p3_0_0.2.2.2.2.1, ()), (p5_0_0.1, p5_0_0.2.1, p5_0_0.2.2.1, p5_0_0.2.2.2.1, (p5_0_0.2.2.2.2.1.1, p5_0_0.2.2.2.2.1.2.1, ()), ()), (p6_0_0.1, p6_0_0.2.1, p6_0_0.2.2.1, p6_0_0.2.2.2.1, (p6_0_0.2.2.2.2.1.1, p6_0_0.2.2.2.2.1.2.1, ()), ()), ()))
  else
  let t41_10 : Bool := decide (p2_0_0.1 = p3_0_0.1)
  (guardR t41_10 (some ()) () fun _ =>
  guardR t41_10 (some p2_0_0.2.1) 0 fun v_11 =>
  guardR t41_10 (some ()) () fun _ =>
  guardR t41_10 (some p3_0_0.2.1) 0 fun v_12 =>
  guardR t41_10 (some (decide (v_11 = v_12))) false fun v_13 =>
  let t48_14 : Bool := bif t41_10 then v_13 else false
  guardR t48_14 (some ()) () fun _ =>
  guardR t48_14 (some p2_0_0.2.2.2.1) 0 fun v_15 =>
  guardR t48_14 (some ()) () fun _ =>
  guardR t48_14 (some p3_0_0.2.2.2.1) 0 fun v_16 =>
  guardR t48_14 (some (decide (v_15 = v_16))) false fun v_17 =>
  let t55_18 : Bool := bif t48_14 then v_17 else false
  guardR t55_18 (some ()) () fun _ =>
  guardR t55_18 (some p5_0_0.1) [] fun v_19 =>
  guardR t55_18 (some ()) () fun _ =>
  guardR t55_18 (some p6_0_0.1) [] fun v_20 =>
  guardR t55_18 (ref22_Same v_19 v_20) ((false, ()), ()) fun r_21 =>
  let t62_22 : Bool := bif t55_18 then r_21.1.1 else false
  guardR t62_22 (some ()) () fun _ =>
  guardR t62_22 (some p5_0_0.2.1) [] fun v_23 =>
  guardR t62_22 (some ()) () fun _ =>
  guardR t62_22 (some p6_0_0.2.1) [] fun v_24 =>
  guardR t62_22 (ref22_Same v_23 v_24) ((false, ()), ()) fun r_25 =>
  let t69_26 : Bool := bif t62_22 then r_25.1.1 else false
  guardR t69_26 (some ()) () fun _ =>
  guardR t69_26 (some p5_0_0.2.2.1) 0 fun v_27 =>
  guardR t69_26 (some ()) () fun _ =>
  guardR t69_26 (some p6_0_0.2.2.1) 0 fun v_28 =>
  guardR t69_26 (some (decide (v_27 = v_28))) false fun v_29 =>
  let t76_30 : Bool := bif t69_26 then v_29 else false
  guardR t76_30 (some ()) () fun _ =>
  guardR t76_30 (some p5_0_0.2.2.2.1) 0 fun v_31 =>
  guardR t76_30 (some ()) () fun _ =>
  guardR t76_30 (some p6_0_0.2.2.2.1) 0 fun v_32 =>
  guardR t76_30 (some (decide (v_31 = v_32))) false fun v_33 =>
  let t83_34 : Bool := bif t76_30 then v_33 else false
  guardR t83_34 (some ()) () fun _ =>
  guardR t83_34 (some ()) () fun _ =>
  guardR t83_34 (some p5_0_0.2.2.2.2.1.1) 0 fun v_35 =>
  guardR t83_34 (some ()) () fun _ =>
  guardR t83_34 (some ()) () fun _ =>
  guardR t83_34 (some p6_0_0.2.2.2.2.1.1) 0 fun v_36 =>
  guardR t83_34 (some (decide (v_35 = v_36))) false fun v_37 =>
  let t92_38 : Bool := bif t83_34 then v_37 else false
  guardR t92_38 (some ()) () fun _ =>
  guardR t92_38 (some ()) () fun _ =>
  guardR t92_38 (some p5_0_0.2.2.2.2.1.2.1) [] fun v_39 =>
  guardR t92_38 (some ()) () fun _ =>
  guardR t92_38 (some ()) () fun _ =>
  guardR t92_38 (some p6_0_0.2.2.2.2.1.2.1) [] fun v_40 =>
  guardR t92_38 (ref22_Same v_39 v_40) ((false, ()), ()) fun r_41 =>
  some (((bif t92_38 then r_41.1.1 else false), ()), ())).map .inr
noncomputable def ref25_Same (a_0 : Int × Int × ((List (Int × Int × Int × Unit)) × (List (Int × Int × Int × Unit)) × Int × Int × (Int × (List (Int × Int × Int × Unit)) × Unit) × Unit) × Int × (List Int) × Unit) (b_1 : Int × Int × ((List (Int × Int × Int × Unit)) × (List (Int × Int × Int × Unit)) × Int × Int × (Int × (List (Int × Int × Int × Unit)) × Unit) × Unit) × Int × (List Int) × Unit) : Option ((Bool × Unit) × (Unit)) :=
  bif (!decide ((a_0.2.2.2.2.1.length : Int) = (b_1.2.2.2.2.1.length : Int))) then
    some ((false, ()), ())
  else
  loopR (fun (z : (Int × Unit) × ((Int × Int × ((List (Int × Int × Int × Unit)) × (List (Int × Int × Int × Unit)) × Int × Int × (Int × (List (Int × Int × Int × Unit)) × Unit) × Unit) × Int × (List Int) × Unit) × (Int × Int × ((List (Int × Int × Int × Unit)) × (List (Int × Int × Int × Unit)) × Int × Int × (Int × (List (Int × Int × Int × Unit)) × Unit) × Unit) × Int × (List Int) × Unit) × ((List (Int × Int × Int × Unit)) × (List (Int × Int × Int × Unit)) × Int × Int × (Int × (List (Int × Int × Int × Unit)) × Unit) × Unit) × ((List (Int × Int × Int × Unit)) × (List (Int × Int × Int × Unit)) × Int × Int × (Int × (List (Int × Int × Int × Unit)) × Unit) × Unit) × Unit)) => ref25_Same_s0 z.1.1 z.2.1 z.2.2.1 z.2.2.2.1 z.2.2.2.2.1) ((0, ()), (a_0.1, a_0.2.1, (a_0.2.2.1.1, a_0.2.2.1.2.1, a_0.2.2.1.2.2.1, a_0.2.2.1.2.2.2.1, (a_0.2.2.1.2.2.2.2.1.1, a_0.2.2.1.2.2.2.2.1.2.1, ()), ()), a_0.2.2.2.1, a_0.2.2.2.2.1, ()), (b_1.1, b_1.2.1, (b_1.2.2.1.1, b_1.2.2.1.2.1, b_1.2.2.1.2.2.1, b_1.2.2.1.2.2.2.1, (b_1.2.2.1.2.2.2.2.1.1, b_1.2.2.1.2.2.2.2.1.2.1, ()), ()), b_1.2.2.2.1, b_1.2.2.2.2.1, ()), (a_0.2.2.1.1, a_0.2.2.1.2.1, a_0.2.2.1.2.2.1, a_0.2.2.1.2.2.2.1, (a_0.2.2.1.2.2.2.2.1.1, a_0.2.2.1.2.2.2.2.1.2.1, ()), ()), (b_1.2.2.1.1, b_1.2.2.1.2.1, b_1.2.2.1.2.2.1, b_1.2.2.1.2.2.2.1, (b_1.2.2.1.2.2.2.2.1.1, b_1.2.2.1.2.2.2.2.1.2.1, ()), ()), ())

/-! ### shunter/batch.Copy -/
noncomputable def batch_Copy (u_0 : Int × Int × ((List (Int × Int × Int × Unit)) × (List (Int × Int × Int × Unit)) × Int × Int × (Int × (List (Int × Int × Int × Unit)) × Unit) × Unit) × Int × (List Int) × Unit) : Option (((Int × Int × ((List (Int × Int × Int × Unit)) × (List (Int × Int × Int × Unit)) × Int × Int × (Int × (List (Int × Int × Int × Unit)) × Unit) × Unit) × Int × (List Int) × Unit) × Unit) × (Unit)) :=
  (slices_Clone_int_int u_0.2.2.2.2.1).bind fun r_1 =>
  (slices_Clone_api_Vec_api_Vec u_0.2.2.1.1).bind fun r_2 =>
  (slices_Clone_api_Vec_api_Vec u_0.2.2.1.2.1).bind fun r_3 =>
  (slices_Clone_api_Vec_api_Vec u_0.2.2.1.2.2.2.2.1.2.1).bind fun r_4 =>
  some (((u_0.1, u_0.2.1, (r_2.1.1, r_3.1.1, u_0.2.2.1.2.2.1, u_0.2.2.1.2.2.2.1, (u_0.2.2.1.2.2.2.2.1.1, r_4.1.1, ()), ()), u_0.2.2.2.1, r_1.1.1, ()), ()), ())

/-! ### shunter/batch.readMatch -/
noncomputable def batch_readMatch_59d (r_0 : ((List Int) × Int × (Option (Int × Int × Unit)) × Unit) × Unit) : Option ((((List (Int × Int × Int × Unit)) × (List (Int × Int × Int × Unit)) × Int × Int × (Int × Unit × Unit) × Unit) × Unit) × ((((List Int) × Int × (Option (Int × Int × Unit)) × Unit) × Unit) × Unit)) :=
  (wire_Reader_Vecs_e57 ((r_0.1.1, r_0.1.2.1, r_0.1.2.2.1, ()), ()) 4).bind fun r_1 =>
  (wire_Reader_Vecs_e57 r_1.2.1 4).bind fun r_2 =>
  (wire_Reader_Two_e57 r_2.2.1 65535).bind fun r_3 =>
  (wire_Reader_Two_e57 r_3.2.1 65535).bind fun r_4 =>
  some (((r_1.1.1, r_2.1.1, r_3.1.1, r_4.1.1, (0, (), ()), ()), ()), r_4.2.1, ())

/-! ### shunter/batch.readCall -/
noncomputable def batch_readCall_59d (r_0 : ((List Int) × Int × (Option (Int × Int × Unit)) × Unit) × Unit) : Option (((Int × (List (Int × Int × Int × Unit)) × Unit) × Unit) × ((((List Int) × Int × (Option (Int × Int × Unit)) × Unit) × Unit) × Unit)) :=
  (wire_Reader_Byte_e57 ((r_0.1.1, r_0.1.2.1, r_0.1.2.2.1, ()), ()) 255).bind fun r_1 =>
  (wire_Reader_Vecs_e57 r_1.2.1 8).bind fun r_2 =>
  some (((r_1.1.1, r_2.1.1, ()), ()), r_2.2.1, ())

/-! ### shunter/batch.read -/
noncomputable def batch_read_59d (r_0 : ((List Int) × Int × (Option (Int × Int × Unit)) × Unit) × Unit) : Option (((Int × Int × ((List (Int × Int × Int × Unit)) × (List (Int × Int × Int × Unit)) × Int × Int × (Int × (List (Int × Int × Int × Unit)) × Unit) × Unit) × Int × (List Int) × Unit) × Unit) × ((((List Int) × Int × (Option (Int × Int × Unit)) × Unit) × Unit) × Unit)) :=
  (wire_Reader_Byte_e57 ((r_0.1.1, r_0.1.2.1, r_0.1.2.2.1, ()), ()) 4).bind fun r_1 =>
  bif (decide (r_1.1.1 = 4)) then
    (wire_Reader_Byte_e57 r_1.2.1 255).bind fun r_3 =>
    (wire_Reader_Numbers_28a r_3.2.1 64 255).bind fun r_4 =>
    some (((r_1.1.1, 0, ([], [], 0, 0, (0, [], ()), ()), r_3.1.1, r_4.1.1, ()), ()), r_4.2.1, ())
  else
  (wire_Reader_Byte_e57 r_1.2.1 255).bind fun r_5 =>
  bif (decide (r_1.1.1 = 2)) then
    (batch_readMatch_59d r_5.2.1).bind fun r_7 =>
    some (((r_1.1.1, r_5.1.1, (r_7.1.1.1, r_7.1.1.2.1, r_7.1.1.2.2.1, r_7.1.1.2.2.2.1, (r_7.1.1.2.2.2.2.1.1, [], r_7.1.1.2.2.2.2.1.2.2), r_7.1.1.2.2.2.2.2), 0, [], ()), ()), r_7.2.1, ())
  else
  let t25_8 : Bool := decide (r_1.1.1 = 0)
  bif t25_8 then
    bif t25_8 then
      (batch_readMatch_59d r_5.2.1).bind fun r_9 =>
      (batch_readCall_59d r_9.2.1).bind fun r_10 =>
      some (((r_1.1.1, r_5.1.1, (r_9.1.1.1, r_9.1.1.2.1, r_9.1.1.2.2.1, r_9.1.1.2.2.2.1, r_10.1.1, r_9.1.1.2.2.2.2.2), 0, [], ()), ()), r_10.2.1, ())
    else
    (batch_readCall_59d r_5.2.1).bind fun r_11 =>
    some (((r_1.1.1, r_5.1.1, ([], [], 0, 0, r_11.1.1, ()), 0, [], ()), ()), r_11.2.1, ())
  else
  bif (decide (r_1.1.1 = 1)) then
    (batch_readMatch_59d r_5.2.1).bind fun r_13 =>
    (batch_readCall_59d r_13.2.1).bind fun r_14 =>
    some (((r_1.1.1, r_5.1.1, (r_13.1.1.1, r_13.1.1.2.1, r_13.1.1.2.2.1, r_13.1.1.2.2.2.1, r_14.1.1, r_13.1.1.2.2.2.2.2), 0, [], ()), ()), r_14.2.1, ())
  else
  (batch_readCall_59d r_5.2.1).bind fun r_15 =>
  some (((r_1.1.1, r_5.1.1, ([], [], 0, 0, r_15.1.1, ()), 0, [], ()), ()), r_15.2.1, ())

/-! ### shunter/batch.Prefix -/
noncomputable def batch_Prefix_s0 (l_5_0 : List (Int × Int × ((List (Int × Int × Int × Unit)) × (List (Int × Int × Int × Unit)) × Int × Int × (Int × (List (Int × Int × Int × Unit)) × Unit) × Unit) × Int × (List Int) × Unit)) (t10_10_0 : Int) (t11_11_0 : Int) (p8_0_0 : ((List Int) × Int × (Option (Int × Int × Unit)) × Unit) × Unit) : Option ((((List (Int × Int × ((List (Int × Int × Int × Unit)) × (List (Int × Int × Int × Unit)) × Int × Int × (Int × (List (Int × Int × Int × Unit)) × Unit) × Unit) × Int × (List Int) × Unit)) × Int × Int × Unit) × ((((List Int) × Int × (Option (Int × Int × Unit)) × Unit) × Unit) × Unit)) ⊕ (((List (Int × Int × ((List (Int × Int × Int × Unit)) × (List (Int × Int × Int × Unit)) × Int × Int × (Int × (List (Int × Int × Int × Unit)) × Unit) × Unit) × Int × (List Int) × Unit)) × ((Option (Int × Int × Unit)) ⊕ Unit) × Unit) × (Unit))) :=
  bif (decide (t11_11_0 < t10_10_0)) then
    (batch_read_59d ((p8_0_0.1.1, p8_0_0.1.2.1, p8_0_0.1.2.2.1, ()), ())).bind fun r_4 =>
    (wire_Reader_Bad_59d r_4.2.1).bind fun r_5 =>
    bif r_5.1.1 then
      ((wire_Reader_End_59d r_5.2.1).bind fun r_6 =>
      some ((l_5_0, r_6.1.1, ()), ())).map .inr
    else
    (roomI 144 l_5_0 [r_4.1.1]).bind fun v_7 =>
    some (.inl ((v_7, t10_10_0, (IntKind.i64.wrap (t11_11_0 + 1)), ()), r_5.2.1, ()))
  else
  ((wire_Reader_End_59d ((p8_0_0.1.1, p8_0_0.1.2.1, p8_0_0.1.2.2.1, ()), ())).bind fun r_9 =>
  some ((l_5_0, r_9.1.1, ()), ())).map .inr
noncomputable def batch_Prefix (b_0 : List Int) : Option (((List (Int × Int × ((List (Int × Int × Int × Unit)) × (List (Int × Int × Int × Unit)) × Int × Int × (Int × (List (Int × Int × Int × Unit)) × Unit) × Unit) × Int × (List Int) × Unit)) × ((Option (Int × Int × Unit)) ⊕ Unit) × Unit) × (Unit)) :=
  (wire_Read b_0).bind fun r_1 =>
  (wire_Reader_Byte_db0 r_1.1.1 64).bind fun r_2 =>
  loopR (fun (z : ((List (Int × Int × ((List (Int × Int × Int × Unit)) × (List (Int × Int × Int × Unit)) × Int × Int × (Int × (List (Int × Int × Int × Unit)) × Unit) × Unit) × Int × (List Int) × Unit)) × Int × Int × Unit) × ((((List Int) × Int × (Option (Int × Int × Unit)) × Unit) × Unit) × Unit)) => batch_Prefix_s0 z.1.1 z.1.2.1 z.1.2.2.1 z.2.1) (([], r_2.1.1, 0, ()), r_2.2.1, ())

/-! ### shunter/batch.Decode -/
noncomputable def batch_Decode (b_0 : List Int) : Option (((List (Int × Int × ((List (Int × Int × Int × Unit)) × (List (Int × Int × Int × Unit)) × Int × Int × (Int × (List (Int × Int × Int × Unit)) × Unit) × Unit) × Int × (List Int) × Unit)) × Int × ((Option (Int × Int × Unit)) ⊕ Unit) × Unit) × (Unit)) :=
  (batch_Prefix b_0).bind fun r_1 =>
  bif (!(isNil1 r_1.1.2.1)) then
    some (([], (r_1.1.1.length : Int), r_1.1.2.1, ()), ())
  else
  some ((r_1.1.1, (r_1.1.1.length : Int), .inr (), ()), ())

/-! ### shunter/shunterref25.takeVecs -/
noncomputable def ref25_takeVecs_s0 (n_6_0 : Int) (l_7_0 : List (Int × Int × Int × Unit)) (i_8_0 : Int) (p2_0_0 : (List Int) × Int × Int × Int × Unit) (p4_0_0 : Unit × Int × Int × Int × Unit) : Option (((Int × (List (Int × Int × Int × Unit)) × Int × Unit) × (((List Int) × Int × Int × Int × Unit) × (Unit × Int × Int × Int × Unit) × Unit)) ⊕ ((((List Int) × Int × Int × Int × Unit) × (List (Int × Int × Int × Unit)) × Unit) × (Unit))) :=
  bif (decide (i_8_0 < n_6_0)) then
    (ref07_TakeVec (p2_0_0.1, p2_0_0.2.1, p2_0_0.2.2.1, p2_0_0.2.2.2.1, ())).bind fun r_3 =>
    (roomI 24 l_7_0 [r_3.1.2.1]).bind fun v_4 =>
    some (.inl ((n_6_0, v_4, (IntKind.i64.wrap (i_8_0 + 1)), ()), r_3.1.1, (p4_0_0.1, p4_0_0.2.1, p4_0_0.2.2.1, p4_0_0.2.2.2.1, ()), ()))
  else
  (bif (!decide (p2_0_0.2.2.1 = 0)) then
    some (((p2_0_0.1, p2_0_0.2.1, p2_0_0.2.2.1, p2_0_0.2.2.2.1, ()), [], ()), ())
  else
  some (((p2_0_0.1, p2_0_0.2.1, p2_0_0.2.2.1, p2_0_0.2.2.2.1, ()), l_7_0, ()), ())).map .inr
noncomputable def ref25_takeVecs (r_0 : (List Int) × Int × Int × Int × Unit) (most_1 : Int) : Option ((((List Int) × Int × Int × Int × Unit) × (List (Int × Int × Int × Unit)) × Unit) × (Unit)) :=
  (ref07_Count (r_0.1, r_0.2.1, r_0.2.2.1, r_0.2.2.2.1, ()) most_1).bind fun r_1 =>
  loopR (fun (z : (Int × (List (Int × Int × Int × Unit)) × Int × Unit) × (((List Int) × Int × Int × Int × Unit) × (Unit × Int × Int × Int × Unit) × Unit)) => ref25_takeVecs_s0 z.1.1 z.1.2.1 z.1.2.2.1 z.2.1 z.2.2.1) ((r_1.1.2.1, [], 0, ()), r_1.1.1, ((), 0, 0, 0, ()), ())

/-! ### shunter/shunterref25.take -/
noncomputable def ref25_take_s0 (n_6_0 : Int) (i_7_0 : Int) (p1_0_0 : (List Int) × Int × Int × Int × Unit) (p2_0_0 : Unit × Int × Int × Int × Unit) (p3_0_0 : Int × Int × (Unit × Unit × Int × Int × (Int × Unit × Unit) × Unit) × Int × Unit × Unit) (p5_0_0 : Int × Int × (Unit × Unit × Int × Int × (Int × Unit × Unit) × Unit) × Int × (List Int) × Unit) : Option (((Int × Int × Unit) × (((List Int) × Int × Int × Int × Unit) × (Unit × Int × Int × Int × Unit) × (Int × Int × (Unit × Unit × Int × Int × (Int × Unit × Unit) × Unit) × Int × Unit × Unit) × (Int × Int × (Unit × Unit × Int × Int × (Int × Unit × Unit) × Unit) × Int × (List Int) × Unit) × Unit)) ⊕ ((((List Int) × Int × Int × Int × Unit) × (Int × Int × ((List (Int × Int × Int × Unit)) × (List (Int × Int × Int × Unit)) × Int × Int × (Int × (List (Int × Int × Int × Unit)) × Unit) × Unit) × Int × (List Int) × Unit) × Unit) × (Unit))) :=
  bif (decide (i_7_0 < n_6_0)) then
    (ref07_Take (p1_0_0.1, p1_0_0.2.1, p1_0_0.2.2.1, p1_0_0.2.2.2.1, ()) 1 255).bind fun r_6 =>
    (roomI 8 p5_0_0.2.2.2.2.1 [r_6.1.2.1]).bind fun v_7 =>
    some (.inl ((n_6_0, (IntKind.i64.wrap (i_7_0 + 1)), ()), r_6.1.1, (p2_0_0.1, p2_0_0.2.1, p2_0_0.2.2.1, p2_0_0.2.2.2.1, ()), (p3_0_0.1, p3_0_0.2.1, (p3_0_0.2.2.1.1, p3_0_0.2.2.1.2.1, p3_0_0.2.2.1.2.2.1, p3_0_0.2.2.1.2.2.2.1, (p3_0_0.2.2.1.2.2.2.2.1.1, p3_0_0.2.2.1.2.2.2.2.1.2.1, ()), ()), p3_0_0.2.2.2.1, p3_0_0.2.2.2.2.1, ()), (p5_0_0.1, p5_0_0.2.1, (p5_0_0.2.2.1.1, p5_0_0.2.2.1.2.1, p5_0_0.2.2.1.2.2.1, p5_0_0.2.2.1.2.2.2.1, (p5_0_0.2.2.1.2.2.2.2.1.1, p5_0_0.2.2.1.2.2.2.2.1.2.1, ()), ()), p5_0_0.2.2.2.1, v_7, ()), ()))
  else
  some (.inr (((p1_0_0.1, p1_0_0.2.1, p1_0_0.2.2.1, p1_0_0.2.2.2.1, ()), (p5_0_0.1, p5_0_0.2.1, ([], [], p5_0_0.2.2.1.2.2.1, p5_0_0.2.2.1.2.2.2.1, (p5_0_0.2.2.1.2.2.2.2.1.1, [], ()), ()), p5_0_0.2.2.2.1, p5_0_0.2.2.2.2.1, ()), ()), ()))
noncomputable def ref25_take (r_0 : (List Int) × Int × Int × Int × Unit) : Option ((((List Int) × Int × Int × Int × Unit) × (Int × Int × ((List (Int × Int × Int × Unit)) × (List (Int × Int × Int × Unit)) × Int × Int × (Int × (List (Int × Int × Int × Unit)) × Unit) × Unit) × Int × (List Int) × Unit) × Unit) × (Unit)) :=
  (ref07_Take (r_0.1, r_0.2.1, r_0.2.2.1, r_0.2.2.2.1, ()) 1 4).bind fun r_1 =>
  bif (decide (r_1.1.2.1 = 4)) then
    (ref07_Take r_1.1.1 1 255).bind fun r_3 =>
    (ref07_Count r_3.1.1 64).bind fun r_4 =>
    loopR (fun (z : (Int × Int × Unit) × (((List Int) × Int × Int × Int × Unit) × (Unit × Int × Int × Int × Unit) × (Int × Int × (Unit × Unit × Int × Int × (Int × Unit × Unit) × Unit) × Int × Unit × Unit) × (Int × Int × (Unit × Unit × Int × Int × (Int × Unit × Unit) × Unit) × Int × (List Int) × Unit) × Unit)) => ref25_take_s0 z.1.1 z.1.2.1 z.2.1 z.2.2.1 z.2.2.2.1 z.2.2.2.2.1) ((r_4.1.2.1, 0, ()), r_4.1.1, ((), 0, 0, 0, ()), (0, 0, ((), (), 0, 0, (0, (), ()), ()), 0, (), ()), (r_1.1.2.1, 0, ((), (), 0, 0, (0, (), ()), ()), r_3.1.2.1, [], ()), ())
  else
  (ref07_Take r_1.1.1 1 255).bind fun r_9 =>
  bif (!decide (r_1.1.2.1 = 3)) then
    (ref25_takeVecs r_9.1.1 4).bind fun r_11 =>
    (ref25_takeVecs r_11.1.1 4).bind fun r_12 =>
    (ref07_Take r_12.1.1 2 65535).bind fun r_13 =>
    (ref07_Take r_13.1.1 2 65535).bind fun r_14 =>
    bif (!decide (r_1.1.2.1 = 2)) then
      (ref07_Take r_14.1.1 1 255).bind fun r_16 =>
      (ref25_takeVecs r_16.1.1 8).bind fun r_17 =>
      some ((r_17.1.1, (r_1.1.2.1, r_9.1.2.1, (r_11.1.2.1, r_12.1.2.1, r_13.1.2.1, r_14.1.2.1, (r_16.1.2.1, r_17.1.2.1, ()), ()), 0, [], ()), ()), ())
    else
    some ((r_14.1.1, (r_1.1.2.1, r_9.1.2.1, (r_11.1.2.1, r_12.1.2.1, r_13.1.2.1, r_14.1.2.1, (0, [], ()), ()), 0, [], ()), ()), ())
  else
  bif (!decide (r_1.1.2.1 = 2)) then
    (ref07_Take r_9.1.1 1 255).bind fun r_19 =>
    (ref25_takeVecs r_19.1.1 8).bind fun r_20 =>
    some ((r_20.1.1, (r_1.1.2.1, r_9.1.2.1, ([], [], 0, 0, (r_19.1.2.1, r_20.1.2.1, ()), ()), 0, [], ()), ()), ())
  else
  some ((r_9.1.1, (r_1.1.2.1, r_9.1.2.1, ([], [], 0, 0, (0, [], ()), ()), 0, [], ()), ()), ())

/-! ### shunter/shunterref25.Prefix -/
noncomputable def ref25_Prefix_s0 (n_6_0 : Int) (l_7_0 : List (Int × Int × ((List (Int × Int × Int × Unit)) × (List (Int × Int × Int × Unit)) × Int × Int × (Int × (List (Int × Int × Int × Unit)) × Unit) × Unit) × Int × (List Int) × Unit)) (i_8_0 : Int) (p5_0_0 : (List Int) × Int × Int × Int × Unit) : Option (((Int × (List (Int × Int × ((List (Int × Int × Int × Unit)) × (List (Int × Int × Int × Unit)) × Int × Int × (Int × (List (Int × Int × Int × Unit)) × Unit) × Unit) × Int × (List Int) × Unit)) × Int × Unit) × (((List Int) × Int × Int × Int × Unit) × Unit)) ⊕ (((List (Int × Int × ((List (Int × Int × Int × Unit)) × (List (Int × Int × Int × Unit)) × Int × Int × (Int × (List (Int × Int × Int × Unit)) × Unit) × Unit) × Int × (List Int) × Unit)) × Int × Int × Unit) × (Unit))) :=
  let t20_2 : Bool := decide (i_8_0 < n_6_0)
  guardR t20_2 (some ()) () fun _ =>
  guardR t20_2 (some p5_0_0.2.2.1) 0 fun v_3 =>
  guardR t20_2 (some (decide (v_3 = 0))) false fun v_4 =>
  bif (bif t20_2 then v_4 else false) then
    (ref25_take (p5_0_0.1, p5_0_0.2.1, p5_0_0.2.2.1, p5_0_0.2.2.2.1, ())).bind fun r_6 =>
    bif (decide (r_6.1.1.2.2.1 = 0)) then
      (roomI 144 l_7_0 [r_6.1.2.1]).bind fun v_8 =>
      some (.inl ((n_6_0, v_8, (IntKind.i64.wrap (i_8_0 + 1)), ()), r_6.1.1, ()))
    else
    some (.inl ((n_6_0, l_7_0, (IntKind.i64.wrap (i_8_0 + 1)), ()), r_6.1.1, ()))
  else
  ((ref07_End (p5_0_0.1, p5_0_0.2.1, p5_0_0.2.2.1, p5_0_0.2.2.2.1, ())).bind fun r_11 =>
  some ((l_7_0, r_11.1.1, r_11.1.2.1, ()), ())).map .inr
noncomputable def ref25_Prefix (b_0 : List Int) : Option (((List (Int × Int × ((List (Int × Int × Int × Unit)) × (List (Int × Int × Int × Unit)) × Int × Int × (Int × (List (Int × Int × Int × Unit)) × Unit) × Unit) × Int × (List Int) × Unit)) × Int × Int × Unit) × (Unit)) :=
  (ref07_Take (b_0, 0, 0, 0, ()) 1 64).bind fun r_1 =>
  loopR (fun (z : (Int × (List (Int × Int × ((List (Int × Int × Int × Unit)) × (List (Int × Int × Int × Unit)) × Int × Int × (Int × (List (Int × Int × Int × Unit)) × Unit) × Unit) × Int × (List Int) × Unit)) × Int × Unit) × (((List Int) × Int × Int × Int × Unit) × Unit)) => ref25_Prefix_s0 z.1.1 z.1.2.1 z.1.2.2.1 z.2.1) ((r_1.1.2.1, [], 0, ()), r_1.1.1, ())

/-! ### shunter/shunterref25.Decode -/
noncomputable def ref25_Decode (b_0 : List Int) : Option (((List (Int × Int × ((List (Int × Int × Int × Unit)) × (List (Int × Int × Int × Unit)) × Int × Int × (Int × (List (Int × Int × Int × Unit)) × Unit) × Unit) × Int × (List Int) × Unit)) × Int × Int × Int × Unit) × (Unit)) :=
  (ref25_Prefix b_0).bind fun r_1 =>
  bif (!decide (r_1.1.2.1 = 0)) then
    some (([], (r_1.1.1.length : Int), r_1.1.2.1, r_1.1.2.2.1, ()), ())
  else
  some ((r_1.1.1, (r_1.1.1.length : Int), 0, 0, ()), ())

end Go.L
