/- The functions that the statements reach as plain Lean, and what they compute. -/
import Derived.Test.YtnaclmcmicckeaaQ8

set_option linter.unusedSimpArgs false
set_option linter.unusedVariables false

namespace Go.L
open Go Go.Pv
set_option maxRecDepth 100000

/-! ### shunter/shunterref22.Same -/
noncomputable def ref22_Same_s0 (a_0_0 : List (Int × Int × Int × Unit)) (b_1_0 : List (Int × Int × Int × Unit)) (i_5_0 : Int) : Option ((((List (Int × Int × Int × Unit)) × (List (Int × Int × Int × Unit)) × Int × Unit) × (Unit)) ⊕ ((Bool × Unit) × (Unit))) :=
  bif (decide (i_5_0 < (a_0_0.length : Int))) then
    (rdI a_0_0 i_5_0).bind fun v_6 =>
    (rdI b_1_0 i_5_0).bind fun v_7 =>
    bif (!(decide (v_6.1 = v_7.1) && (decide (v_6.2.1 = v_7.2.1) && decide (v_6.2.2.1 = v_7.2.2.1)))) then
      some (.inr ((false, ()), ()))
    else
    some (.inl ((a_0_0, b_1_0, (IntKind.i64.wrap (i_5_0 + 1)), ()), ()))
  else
  some (.inr ((true, ()), ()))
noncomputable def ref22_Same (a_0 : List (Int × Int × Int × Unit)) (b_1 : List (Int × Int × Int × Unit)) : Option ((Bool × Unit) × (Unit)) :=
  bif (!decide ((a_0.length : Int) = (b_1.length : Int))) then
    some ((false, ()), ())
  else
  loopR (fun (z : ((List (Int × Int × Int × Unit)) × (List (Int × Int × Int × Unit)) × Int × Unit) × (Unit)) => ref22_Same_s0 z.1.1 z.1.2.1 z.1.2.2.1) ((a_0, b_1, 0, ()), ())

end Go.L

namespace Go.L
open Go Go.Pv
set_option maxRecDepth 100000

/-! ### shunter/batch.within -/
noncomputable def batch_within (n_0 : Int) (lo_1 : Int) (hi_2 : Int) : Option ((Bool × Unit) × (Unit)) :=
  let t9_1 : Bool := decide (n_0 ≥ lo_1)
  guardR t9_1 (some ()) () fun _ =>
  guardR t9_1 (some ()) () fun _ =>
  guardR t9_1 (some (decide (n_0 ≤ hi_2))) false fun v_2 =>
  some (((bif t9_1 then v_2 else false), ()), ())

/-! ### shunter/batch.blank -/
noncomputable def batch_blank_ea6 (x_0 : Unit × Unit × Int × Int × (Int × Unit × Unit) × Unit) : Option ((Bool × Unit) × (Unit)) :=
  let t6_1 : Bool := decide ((0 : Int) = 0)
  guardR t6_1 (some ()) () fun _ =>
  guardR t6_1 (some x_0.2.1) () fun v_2 =>
  guardR t6_1 (some (0 : Int)) 0 fun v_3 =>
  guardR t6_1 (some (decide (v_3 = 0))) false fun v_4 =>
  let t12_5 : Bool := bif t6_1 then v_4 else false
  guardR t12_5 (some ()) () fun _ =>
  guardR t12_5 (some x_0.2.2.1) 0 fun v_6 =>
  guardR t12_5 (some (decide (v_6 = 0))) false fun v_7 =>
  let t17_8 : Bool := bif t12_5 then v_7 else false
  guardR t17_8 (some ()) () fun _ =>
  guardR t17_8 (some x_0.2.2.2.1) 0 fun v_9 =>
  guardR t17_8 (some (decide (v_9 = 0))) false fun v_10 =>
  some (((bif t17_8 then v_10 else false), ()), ())

/-! ### shunter/batch.blank -/
noncomputable def batch_blank (x_0 : (List (Int × Int × Int × Unit)) × (List (Int × Int × Int × Unit)) × Int × Int × (Int × (List (Int × Int × Int × Unit)) × Unit) × Unit) : Option ((Bool × Unit) × (Unit)) :=
  let t6_2 : Bool := decide ((x_0.1.length : Int) = 0)
  guardR t6_2 (some ()) () fun _ =>
  guardR t6_2 (some x_0.2.1) [] fun v_3 =>
  guardR t6_2 (some (v_3.length : Int)) 0 fun v_4 =>
  guardR t6_2 (some (decide (v_4 = 0))) false fun v_5 =>
  let t12_6 : Bool := bif t6_2 then v_5 else false
  guardR t12_6 (some ()) () fun _ =>
  guardR t12_6 (some x_0.2.2.1) 0 fun v_7 =>
  guardR t12_6 (some (decide (v_7 = 0))) false fun v_8 =>
  let t17_9 : Bool := bif t12_6 then v_8 else false
  guardR t17_9 (some ()) () fun _ =>
  guardR t17_9 (some x_0.2.2.2.1) 0 fun v_10 =>
  guardR t17_9 (some (decide (v_10 = 0))) false fun v_11 =>
  some (((bif t17_9 then v_11 else false), ()), ())

/-! ### shunter/batch.group$1 -/
noncomputable def batch_group_1 (n_0 : Int) : Option ((Bool × Unit) × (Unit)) :=
  (batch_within n_0 0 255).bind fun r_1 =>
  some ((!r_1.1.1, ()), ())

/-! ### slices.IndexFunc[[]int,int] -/
noncomputable def slices_IndexFunc_int_int_6be_s0 (s_0_0 : List Int) (t7_7_0 : Int) (t8_8_0 : Int) : Option ((((List Int) × Int × Int × Unit) × (Unit)) ⊕ ((Int × Unit) × (Unit))) :=
  bif (decide (t8_8_0 < t7_7_0)) then
    (rdI s_0_0 t8_8_0).bind fun v_3 =>
    (batch_group_1 v_3).bind fun r_4 =>
    bif r_4.1.1 then
      some (.inr ((t8_8_0, ()), ()))
    else
    some (.inl ((s_0_0, t7_7_0, (IntKind.i64.wrap (t8_8_0 + 1)), ()), ()))
  else
  some (.inr (((-1), ()), ()))
noncomputable def slices_IndexFunc_int_int_6be (s_0 : List Int) : Option ((Int × Unit) × (Unit)) :=
  loopR (fun (z : ((List Int) × Int × Int × Unit) × (Unit)) => slices_IndexFunc_int_int_6be_s0 z.1.1 z.1.2.1 z.1.2.2.1) ((s_0, (s_0.length : Int), 0, ()), ())

/-! ### slices.ContainsFunc[[]int,int] -/
noncomputable def slices_ContainsFunc_int_int_6be (s_0 : List Int) : Option ((Bool × Unit) × (Unit)) :=
  (slices_IndexFunc_int_int_6be s_0).bind fun r_1 =>
  some (((decide (r_1.1.1 ≥ 0)), ()), ())

/-! ### shunter/batch.group -/
noncomputable def batch_group_cc5 (u_0 : Int × Int × (Unit × Unit × Int × Int × (Int × Unit × Unit) × Unit) × Int × Unit × Unit) : Option ((Bool × Unit) × (Unit)) :=
  let t9_1 : Bool := decide (u_0.2.1 = 0)
  guardR t9_1 (some (u_0.2.2.1.1, u_0.2.2.1.2.1, u_0.2.2.1.2.2.1, u_0.2.2.1.2.2.2.1, (u_0.2.2.1.2.2.2.2.1.1, u_0.2.2.1.2.2.2.2.1.2.1, ()), ())) ((), (), 0, 0, (0, (), ()), ()) fun v_2 =>
  guardR t9_1 (batch_blank_ea6 v_2) ((false, ()), ()) fun r_3 =>
  let t13_4 : Bool := bif t9_1 then r_3.1.1 else false
  guardR t13_4 (some ()) () fun _ =>
  guardR t13_4 (some ()) () fun _ =>
  guardR t13_4 (some u_0.2.2.1.2.2.2.2.1.1) 0 fun v_5 =>
  guardR t13_4 (some (decide (v_5 = 0))) false fun v_6 =>
  let t19_7 : Bool := bif t13_4 then v_6 else false
  guardR t19_7 (some ()) () fun _ =>
  guardR t19_7 (some ()) () fun _ =>
  guardR t19_7 (some u_0.2.2.1.2.2.2.2.1.2.1) () fun v_8 =>
  guardR t19_7 (some (0 : Int)) 0 fun v_9 =>
  guardR t19_7 (some (decide (v_9 = 0))) false fun v_10 =>
  let t26_11 : Bool := bif t19_7 then v_10 else false
  guardR t26_11 (some ()) () fun _ =>
  guardR t26_11 (some u_0.2.2.2.1) 0 fun v_12 =>
  guardR t26_11 (batch_within v_12 0 255) ((false, ()), ()) fun r_13 =>
  let t31_14 : Bool := bif t26_11 then r_13.1.1 else false
  guardR t31_14 (some ()) () fun _ =>
  guardR t31_14 (some u_0.2.2.2.2.1) () fun v_15 =>
  guardR t31_14 (some (0 : Int)) 0 fun v_16 =>
  guardR t31_14 (some (decide (v_16 ≤ 64))) false fun v_17 =>
  let t37_18 : Bool := bif t31_14 then v_17 else false
  guardR t37_18 (some ()) () fun _ =>
  guardR t37_18 (some u_0.2.2.2.2.1) () fun v_19 =>
  guardR t37_18 (some ()) () fun _ =>
  guardR t37_18 (slices_ContainsFunc_int_int_6be []) ((false, ()), ()) fun r_20 =>
  guardR t37_18 (some ()) () fun _ =>
  some (((bif t37_18 then !r_20.1.1 else false), ()), ())

/-! ### shunter/batch.group -/
noncomputable def batch_group (u_0 : Int × Int × ((List (Int × Int × Int × Unit)) × (List (Int × Int × Int × Unit)) × Int × Int × (Int × (List (Int × Int × Int × Unit)) × Unit) × Unit) × Int × (List Int) × Unit) : Option ((Bool × Unit) × (Unit)) :=
  let t9_1 : Bool := decide (u_0.2.1 = 0)
  guardR t9_1 (some (u_0.2.2.1.1, u_0.2.2.1.2.1, u_0.2.2.1.2.2.1, u_0.2.2.1.2.2.2.1, (u_0.2.2.1.2.2.2.2.1.1, u_0.2.2.1.2.2.2.2.1.2.1, ()), ())) ([], [], 0, 0, (0, [], ()), ()) fun v_2 =>
  guardR t9_1 (batch_blank v_2) ((false, ()), ()) fun r_3 =>
  let t13_4 : Bool := bif t9_1 then r_3.1.1 else false
  guardR t13_4 (some ()) () fun _ =>
  guardR t13_4 (some ()) () fun _ =>
  guardR t13_4 (some u_0.2.2.1.2.2.2.2.1.1) 0 fun v_5 =>
  guardR t13_4 (some (decide (v_5 = 0))) false fun v_6 =>
  let t19_7 : Bool := bif t13_4 then v_6 else false
  guardR t19_7 (some ()) () fun _ =>
  guardR t19_7 (some ()) () fun _ =>
  guardR t19_7 (some u_0.2.2.1.2.2.2.2.1.2.1) [] fun v_8 =>
  guardR t19_7 (some (v_8.length : Int)) 0 fun v_9 =>
  guardR t19_7 (some (decide (v_9 = 0))) false fun v_10 =>
  let t26_11 : Bool := bif t19_7 then v_10 else false
  guardR t26_11 (some ()) () fun _ =>
  guardR t26_11 (some u_0.2.2.2.1) 0 fun v_12 =>
  guardR t26_11 (batch_within v_12 0 255) ((false, ()), ()) fun r_13 =>
  let t31_14 : Bool := bif t26_11 then r_13.1.1 else false
  guardR t31_14 (some ()) () fun _ =>
  guardR t31_14 (some u_0.2.2.2.2.1) [] fun v_15 =>
  guardR t31_14 (some (v_15.length : Int)) 0 fun v_16 =>
  guardR t31_14 (some (decide (v_16 ≤ 64))) false fun v_17 =>
  let t37_18 : Bool := bif t31_14 then v_17 else false
  guardR t37_18 (some ()) () fun _ =>
  guardR t37_18 (some u_0.2.2.2.2.1) [] fun v_19 =>
  guardR t37_18 (some ()) () fun _ =>
  guardR t37_18 (slices_ContainsFunc_int_int_6be v_19) ((false, ()), ()) fun r_20 =>
  guardR t37_18 (some ()) () fun _ =>
  some (((bif t37_18 then !r_20.1.1 else false), ()), ())

/-! ### shunter/batch.matches -/
noncomputable def batch_matches (k_0 : Int) : Option ((Bool × Unit) × (Unit)) :=
  let t4_1 : Bool := decide (k_0 = 0)
  guardR (!t4_1) (some ()) () fun _ =>
  guardR (!t4_1) (some (decide (k_0 = 1))) false fun v_2 =>
  let t8_3 : Bool := bif t4_1 then true else v_2
  guardR (!t8_3) (some ()) () fun _ =>
  guardR (!t8_3) (some (decide (k_0 = 2))) false fun v_4 =>
  some (((bif t8_3 then true else v_4), ()), ())

/-! ### shunter/batch.rows$1 -/
noncomputable def batch_rows_1 (v_0 : Int × Int × Int × Unit) : Option ((Bool × Unit) × (Unit)) :=
  (vec_May (v_0.1, v_0.2.1, v_0.2.2.1, ())).bind fun r_1 =>
  some ((!r_1.1.1, ()), ())

/-! ### slices.IndexFunc[[]shunter/api.Vec,shunter/api.Vec] -/
noncomputable def slices_IndexFunc_api_Vec_api_Vec_d9d_s0 (s_0_0 : List (Int × Int × Int × Unit)) (t7_7_0 : Int) (t8_8_0 : Int) : Option ((((List (Int × Int × Int × Unit)) × Int × Int × Unit) × (Unit)) ⊕ ((Int × Unit) × (Unit))) :=
  bif (decide (t8_8_0 < t7_7_0)) then
    (rdI s_0_0 t8_8_0).bind fun v_3 =>
    (batch_rows_1 v_3).bind fun r_4 =>
    bif r_4.1.1 then
      some (.inr ((t8_8_0, ()), ()))
    else
    some (.inl ((s_0_0, t7_7_0, (IntKind.i64.wrap (t8_8_0 + 1)), ()), ()))
  else
  some (.inr (((-1), ()), ()))
noncomputable def slices_IndexFunc_api_Vec_api_Vec_d9d (s_0 : List (Int × Int × Int × Unit)) : Option ((Int × Unit) × (Unit)) :=
  loopR (fun (z : ((List (Int × Int × Int × Unit)) × Int × Int × Unit) × (Unit)) => slices_IndexFunc_api_Vec_api_Vec_d9d_s0 z.1.1 z.1.2.1 z.1.2.2.1) ((s_0, (s_0.length : Int), 0, ()), ())

/-! ### slices.ContainsFunc[[]shunter/api.Vec,shunter/api.Vec] -/
noncomputable def slices_ContainsFunc_api_Vec_api_Vec_d9d (s_0 : List (Int × Int × Int × Unit)) : Option ((Bool × Unit) × (Unit)) :=
  (slices_IndexFunc_api_Vec_api_Vec_d9d s_0).bind fun r_1 =>
  some (((decide (r_1.1.1 ≥ 0)), ()), ())

/-! ### shunter/batch.rows -/
noncomputable def batch_rows (l_0 : List (Int × Int × Int × Unit)) (most_1 : Int) : Option ((Bool × Unit) × (Unit)) :=
  let t8_2 : Bool := decide ((l_0.length : Int) ≤ most_1)
  guardR t8_2 (some ()) () fun _ =>
  guardR t8_2 (slices_ContainsFunc_api_Vec_api_Vec_d9d l_0) ((false, ()), ()) fun r_3 =>
  guardR t8_2 (some ()) () fun _ =>
  some (((bif t8_2 then !r_3.1.1 else false), ()), ())

/-! ### shunter/batch.match -/
noncomputable def batch_match_ea6 (x_0 : Unit × Unit × Int × Int × (Int × Unit × Unit) × Unit) : Option ((Bool × Unit) × (Unit)) :=
  (batch_rows [] 4).bind fun r_1 =>
  guardR r_1.1.1 (some ()) () fun _ =>
  guardR r_1.1.1 (some x_0.2.1) () fun v_2 =>
  guardR r_1.1.1 (batch_rows [] 4) ((false, ()), ()) fun r_3 =>
  let t10_4 : Bool := bif r_1.1.1 then r_3.1.1 else false
  guardR t10_4 (some ()) () fun _ =>
  guardR t10_4 (some x_0.2.2.1) 0 fun v_5 =>
  guardR t10_4 (batch_within v_5 0 65535) ((false, ()), ()) fun r_6 =>
  let t15_7 : Bool := bif t10_4 then r_6.1.1 else false
  guardR t15_7 (some ()) () fun _ =>
  guardR t15_7 (some x_0.2.2.2.1) 0 fun v_8 =>
  guardR t15_7 (batch_within v_8 0 65535) ((false, ()), ()) fun r_9 =>
  some (((bif t15_7 then r_9.1.1 else false), ()), ())

/-! ### shunter/batch.match -/
noncomputable def batch_match (x_0 : (List (Int × Int × Int × Unit)) × (List (Int × Int × Int × Unit)) × Int × Int × (Int × (List (Int × Int × Int × Unit)) × Unit) × Unit) : Option ((Bool × Unit) × (Unit)) :=
  (batch_rows x_0.1 4).bind fun r_1 =>
  guardR r_1.1.1 (some ()) () fun _ =>
  guardR r_1.1.1 (some x_0.2.1) [] fun v_2 =>
  guardR r_1.1.1 (batch_rows v_2 4) ((false, ()), ()) fun r_3 =>
  let t10_4 : Bool := bif r_1.1.1 then r_3.1.1 else false
  guardR t10_4 (some ()) () fun _ =>
  guardR t10_4 (some x_0.2.2.1) 0 fun v_5 =>
  guardR t10_4 (batch_within v_5 0 65535) ((false, ()), ()) fun r_6 =>
  let t15_7 : Bool := bif t10_4 then r_6.1.1 else false
  guardR t15_7 (some ()) () fun _ =>
  guardR t15_7 (some x_0.2.2.2.1) 0 fun v_8 =>
  guardR t15_7 (batch_within v_8 0 65535) ((false, ()), ()) fun r_9 =>
  some (((bif t15_7 then r_9.1.1 else false), ()), ())

/-! ### shunter/batch.calls -/
noncomputable def batch_calls (k_0 : Int) : Option ((Bool × Unit) × (Unit)) :=
  let t4_1 : Bool := decide (k_0 = 0)
  guardR (!t4_1) (some ()) () fun _ =>
  guardR (!t4_1) (some (decide (k_0 = 1))) false fun v_2 =>
  let t8_3 : Bool := bif t4_1 then true else v_2
  guardR (!t8_3) (some ()) () fun _ =>
  guardR (!t8_3) (some (decide (k_0 = 3))) false fun v_4 =>
  some (((bif t8_3 then true else v_4), ()), ())

/-! ### shunter/batch.call -/
noncomputable def batch_call_7ab (c_0 : Int × Unit × Unit) : Option ((Bool × Unit) × (Unit)) :=
  (batch_within c_0.1 0 255).bind fun r_1 =>
  guardR r_1.1.1 (some ()) () fun _ =>
  guardR r_1.1.1 (some c_0.2.1) () fun v_2 =>
  guardR r_1.1.1 (batch_rows [] 8) ((false, ()), ()) fun r_3 =>
  some (((bif r_1.1.1 then r_3.1.1 else false), ()), ())

/-! ### shunter/batch.call -/
noncomputable def batch_call (c_0 : Int × (List (Int × Int × Int × Unit)) × Unit) : Option ((Bool × Unit) × (Unit)) :=
  (batch_within c_0.1 0 255).bind fun r_1 =>
  guardR r_1.1.1 (some ()) () fun _ =>
  guardR r_1.1.1 (some c_0.2.1) [] fun v_2 =>
  guardR r_1.1.1 (batch_rows v_2 8) ((false, ()), ()) fun r_3 =>
  some (((bif r_1.1.1 then r_3.1.1 else false), ()), ())

/-! ### shunter/batch.May -/
noncomputable def batch_May_cc5 (u_0 : Int × Int × (Unit × Unit × Int × Int × (Int × Unit × Unit) × Unit) × Int × Unit × Unit) : Option ((Bool × Unit) × (Unit)) :=
  (batch_within u_0.1 0 4).bind fun r_1 =>
  bif !r_1.1.1 then
    some ((false, ()), ())
  else
  bif (decide (u_0.1 = 4)) then
    (batch_group_cc5 (u_0.1, u_0.2.1, (u_0.2.2.1.1, u_0.2.2.1.2.1, u_0.2.2.1.2.2.1, u_0.2.2.1.2.2.2.1, (u_0.2.2.1.2.2.2.2.1.1, u_0.2.2.1.2.2.2.2.1.2.1, ()), ()), u_0.2.2.2.1, u_0.2.2.2.2.1, ())).bind fun r_3 =>
    some ((r_3.1.1, ()), ())
  else
  (batch_blank_ea6 (u_0.2.2.1.1, u_0.2.2.1.2.1, u_0.2.2.1.2.2.1, u_0.2.2.1.2.2.2.1, (u_0.2.2.1.2.2.2.2.1.1, u_0.2.2.1.2.2.2.2.1.2.1, ()), ())).bind fun r_4 =>
  (batch_matches u_0.1).bind fun r_5 =>
  bif r_5.1.1 then
    (batch_match_ea6 (u_0.2.2.1.1, u_0.2.2.1.2.1, u_0.2.2.1.2.2.1, u_0.2.2.1.2.2.2.1, (u_0.2.2.1.2.2.2.2.1.1, u_0.2.2.1.2.2.2.2.1.2.1, ()), ())).bind fun r_6 =>
    (batch_calls u_0.1).bind fun r_7 =>
    bif r_7.1.1 then
      guardR r_6.1.1 (some ()) () fun _ =>
      guardR r_6.1.1 (some (u_0.2.2.1.2.2.2.2.1.1, u_0.2.2.1.2.2.2.2.1.2.1, ())) (0, (), ()) fun v_8 =>
      guardR r_6.1.1 (batch_call_7ab v_8) ((false, ()), ()) fun r_9 =>
      let t31_10 : Bool := bif r_6.1.1 then r_9.1.1 else false
      guardR t31_10 (some ()) () fun _ =>
      guardR t31_10 (some u_0.2.1) 0 fun v_11 =>
      guardR t31_10 (batch_within v_11 0 255) ((false, ()), ()) fun r_12 =>
      let t51_13 : Bool := bif t31_10 then r_12.1.1 else false
      guardR t51_13 (some ()) () fun _ =>
      guardR t51_13 (some u_0.2.2.2.1) 0 fun v_14 =>
      guardR t51_13 (some (decide (v_14 = 0))) false fun v_15 =>
      let t56_16 : Bool := bif t51_13 then v_15 else false
      guardR t56_16 (some ()) () fun _ =>
      guardR t56_16 (some u_0.2.2.2.2.1) () fun v_17 =>
      guardR t56_16 (some (0 : Int)) 0 fun v_18 =>
      guardR t56_16 (some (decide (v_18 = 0))) false fun v_19 =>
      some (((bif t56_16 then v_19 else false), ()), ())
    else
    guardR r_6.1.1 (some ()) () fun _ =>
    guardR r_6.1.1 (some ()) () fun _ =>
    guardR r_6.1.1 (some u_0.2.2.1.2.2.2.2.1.1) 0 fun v_21 =>
    guardR r_6.1.1 (some (decide (v_21 = 0))) false fun v_22 =>
    let t38_23 : Bool := bif r_6.1.1 then v_22 else false
    guardR t38_23 (some ()) () fun _ =>
    guardR t38_23 (some ()) () fun _ =>
    guardR t38_23 (some u_0.2.2.1.2.2.2.2.1.2.1) () fun v_24 =>
    guardR t38_23 (some (0 : Int)) 0 fun v_25 =>
    guardR t38_23 (some (decide (v_25 = 0))) false fun v_26 =>
    let t45_27 : Bool := bif t38_23 then v_26 else false
    guardR t45_27 (some ()) () fun _ =>
    guardR t45_27 (some u_0.2.1) 0 fun v_28 =>
    guardR t45_27 (batch_within v_28 0 255) ((false, ()), ()) fun r_29 =>
    let t51_30 : Bool := bif t45_27 then r_29.1.1 else false
    guardR t51_30 (some ()) () fun _ =>
    guardR t51_30 (some u_0.2.2.2.1) 0 fun v_31 =>
    guardR t51_30 (some (decide (v_31 = 0))) false fun v_32 =>
    let t56_33 : Bool := bif t51_30 then v_32 else false
    guardR t56_33 (some ()) () fun _ =>
    guardR t56_33 (some u_0.2.2.2.2.1) () fun v_34 =>
    guardR t56_33 (some (0 : Int)) 0 fun v_35 =>
    guardR t56_33 (some (decide (v_35 = 0))) false fun v_36 =>
    some (((bif t56_33 then v_36 else false), ()), ())
  else
  (batch_calls u_0.1).bind fun r_38 =>
  bif r_38.1.1 then
    guardR r_4.1.1 (some ()) () fun _ =>
    guardR r_4.1.1 (some (u_0.2.2.1.2.2.2.2.1.1, u_0.2.2.1.2.2.2.2.1.2.1, ())) (0, (), ()) fun v_39 =>
    guardR r_4.1.1 (batch_call_7ab v_39) ((false, ()), ()) fun r_40 =>
    let t31_41 : Bool := bif r_4.1.1 then r_40.1.1 else false
    guardR t31_41 (some ()) () fun _ =>
    guardR t31_41 (some u_0.2.1) 0 fun v_42 =>
    guardR t31_41 (batch_within v_42 0 255) ((false, ()), ()) fun r_43 =>
    let t51_44 : Bool := bif t31_41 then r_43.1.1 else false
    guardR t51_44 (some ()) () fun _ =>
    guardR t51_44 (some u_0.2.2.2.1) 0 fun v_45 =>
    guardR t51_44 (some (decide (v_45 = 0))) false fun v_46 =>
    let t56_47 : Bool := bif t51_44 then v_46 else false
    guardR t56_47 (some ()) () fun _ =>
    guardR t56_47 (some u_0.2.2.2.2.1) () fun v_48 =>
    guardR t56_47 (some (0 : Int)) 0 fun v_49 =>
    guardR t56_47 (some (decide (v_49 = 0))) false fun v_50 =>
    some (((bif t56_47 then v_50 else false), ()), ())
  else
  guardR r_4.1.1 (some ()) () fun _ =>
  guardR r_4.1.1 (some ()) () fun _ =>
  guardR r_4.1.1 (some u_0.2.2.1.2.2.2.2.1.1) 0 fun v_52 =>
  guardR r_4.1.1 (some (decide (v_52 = 0))) false fun v_53 =>
  let t38_54 : Bool := bif r_4.1.1 then v_53 else false
  guardR t38_54 (some ()) () fun _ =>
  guardR t38_54 (some ()) () fun _ =>
  guardR t38_54 (some u_0.2.2.1.2.2.2.2.1.2.1) () fun v_55 =>
  guardR t38_54 (some (0 : Int)) 0 fun v_56 =>
  guardR t38_54 (some (decide (v_56 = 0))) false fun v_57 =>
  let t45_58 : Bool := bif t38_54 then v_57 else false
  guardR t45_58 (some ()) () fun _ =>
  guardR t45_58 (some u_0.2.1) 0 fun v_59 =>
  guardR t45_58 (batch_within v_59 0 255) ((false, ()), ()) fun r_60 =>
  let t51_61 : Bool := bif t45_58 then r_60.1.1 else false
  guardR t51_61 (some ()) () fun _ =>
  guardR t51_61 (some u_0.2.2.2.1) 0 fun v_62 =>
  guardR t51_61 (some (decide (v_62 = 0))) false fun v_63 =>
  let t56_64 : Bool := bif t51_61 then v_63 else false
  guardR t56_64 (some ()) () fun _ =>
  guardR t56_64 (some u_0.2.2.2.2.1) () fun v_65 =>
  guardR t56_64 (some (0 : Int)) 0 fun v_66 =>
  guardR t56_64 (some (decide (v_66 = 0))) false fun v_67 =>
  some (((bif t56_64 then v_67 else false), ()), ())

/-! ### shunter/batch.May -/
noncomputable def batch_May (u_0 : Int × Int × ((List (Int × Int × Int × Unit)) × (List (Int × Int × Int × Unit)) × Int × Int × (Int × (List (Int × Int × Int × Unit)) × Unit) × Unit) × Int × (List Int) × Unit) : Option ((Bool × Unit) × (Unit)) :=
  (batch_within u_0.1 0 4).bind fun r_1 =>
  bif !r_1.1.1 then
    some ((false, ()), ())
  else
  bif (decide (u_0.1 = 4)) then
    (batch_group (u_0.1, u_0.2.1, (u_0.2.2.1.1, u_0.2.2.1.2.1, u_0.2.2.1.2.2.1, u_0.2.2.1.2.2.2.1, (u_0.2.2.1.2.2.2.2.1.1, u_0.2.2.1.2.2.2.2.1.2.1, ()), ()), u_0.2.2.2.1, u_0.2.2.2.2.1, ())).bind fun r_3 =>
    some ((r_3.1.1, ()), ())
  else
  (batch_blank (u_0.2.2.1.1, u_0.2.2.1.2.1, u_0.2.2.1.2.2.1, u_0.2.2.1.2.2.2.1, (u_0.2.2.1.2.2.2.2.1.1, u_0.2.2.1.2.2.2.2.1.2.1, ()), ())).bind fun r_4 =>
  (batch_matches u_0.1).bind fun r_5 =>
  bif r_5.1.1 then
    (batch_match (u_0.2.2.1.1, u_0.2.2.1.2.1, u_0.2.2.1.2.2.1, u_0.2.2.1.2.2.2.1, (u_0.2.2.1.2.2.2.2.1.1, u_0.2.2.1.2.2.2.2.1.2.1, ()), ())).bind fun r_6 =>
    (batch_calls u_0.1).bind fun r_7 =>
    bif r_7.1.1 then
      guardR r_6.1.1 (some ()) () fun _ =>
      guardR r_6.1.1 (some (u_0.2.2.1.2.2.2.2.1.1, u_0.2.2.1.2.2.2.2.1.2.1, ())) (0, [], ()) fun v_8 =>
      guardR r_6.1.1 (batch_call v_8) ((false, ()), ()) fun r_9 =>
      let t31_10 : Bool := bif r_6.1.1 then r_9.1.1 else false
      guardR t31_10 (some ()) () fun _ =>
      guardR t31_10 (some u_0.2.1) 0 fun v_11 =>
      guardR t31_10 (batch_within v_11 0 255) ((false, ()), ()) fun r_12 =>
      let t51_13 : Bool := bif t31_10 then r_12.1.1 else false
      guardR t51_13 (some ()) () fun _ =>
      guardR t51_13 (some u_0.2.2.2.1) 0 fun v_14 =>
      guardR t51_13 (some (decide (v_14 = 0))) false fun v_15 =>
      let t56_16 : Bool := bif t51_13 then v_15 else false
      guardR t56_16 (some ()) () fun _ =>
      guardR t56_16 (some u_0.2.2.2.2.1) [] fun v_17 =>
      guardR t56_16 (some (v_17.length : Int)) 0 fun v_18 =>
      guardR t56_16 (some (decide (v_18 = 0))) false fun v_19 =>
      some (((bif t56_16 then v_19 else false), ()), ())
    else
    guardR r_6.1.1 (some ()) () fun _ =>
    guardR r_6.1.1 (some ()) () fun _ =>
    guardR r_6.1.1 (some u_0.2.2.1.2.2.2.2.1.1) 0 fun v_21 =>
    guardR r_6.1.1 (some (decide (v_21 = 0))) false fun v_22 =>
    let t38_23 : Bool := bif r_6.1.1 then v_22 else false
    guardR t38_23 (some ()) () fun _ =>
    guardR t38_23 (some ()) () fun _ =>
    guardR t38_23 (some u_0.2.2.1.2.2.2.2.1.2.1) [] fun v_24 =>
    guardR t38_23 (some (v_24.length : Int)) 0 fun v_25 =>
    guardR t38_23 (some (decide (v_25 = 0))) false fun v_26 =>
    let t45_27 : Bool := bif t38_23 then v_26 else false
    guardR t45_27 (some ()) () fun _ =>
    guardR t45_27 (some u_0.2.1) 0 fun v_28 =>
    guardR t45_27 (batch_within v_28 0 255) ((false, ()), ()) fun r_29 =>
    let t51_30 : Bool := bif t45_27 then r_29.1.1 else false
    guardR t51_30 (some ()) () fun _ =>
    guardR t51_30 (some u_0.2.2.2.1) 0 fun v_31 =>
    guardR t51_30 (some (decide (v_31 = 0))) false fun v_32 =>
    let t56_33 : Bool := bif t51_30 then v_32 else false
    guardR t56_33 (some ()) () fun _ =>
    guardR t56_33 (some u_0.2.2.2.2.1) [] fun v_34 =>
    guardR t56_33 (some (v_34.length : Int)) 0 fun v_35 =>
    guardR t56_33 (some (decide (v_35 = 0))) false fun v_36 =>
    some (((bif t56_33 then v_36 else false), ()), ())
  else
  (batch_calls u_0.1).bind fun r_38 =>
  bif r_38.1.1 then
    guardR r_4.1.1 (some ()) () fun _ =>
    guardR r_4.1.1 (some (u_0.2.2.1.2.2.2.2.1.1, u_0.2.2.1.2.2.2.2.1.2.1, ())) (0, [], ()) fun v_39 =>
    guardR r_4.1.1 (batch_call v_39) ((false, ()), ()) fun r_40 =>
    let t31_41 : Bool := bif r_4.1.1 then r_40.1.1 else false
    guardR t31_41 (some ()) () fun _ =>
    guardR t31_41 (some u_0.2.1) 0 fun v_42 =>
    guardR t31_41 (batch_within v_42 0 255) ((false, ()), ()) fun r_43 =>
    let t51_44 : Bool := bif t31_41 then r_43.1.1 else false
    guardR t51_44 (some ()) () fun _ =>
    guardR t51_44 (some u_0.2.2.2.1) 0 fun v_45 =>
    guardR t51_44 (some (decide (v_45 = 0))) false fun v_46 =>
    let t56_47 : Bool := bif t51_44 then v_46 else false
    guardR t56_47 (some ()) () fun _ =>
    guardR t56_47 (some u_0.2.2.2.2.1) [] fun v_48 =>
    guardR t56_47 (some (v_48.length : Int)) 0 fun v_49 =>
    guardR t56_47 (some (decide (v_49 = 0))) false fun v_50 =>
    some (((bif t56_47 then v_50 else false), ()), ())
  else
  guardR r_4.1.1 (some ()) () fun _ =>
  guardR r_4.1.1 (some ()) () fun _ =>
  guardR r_4.1.1 (some u_0.2.2.1.2.2.2.2.1.1) 0 fun v_52 =>
  guardR r_4.1.1 (some (decide (v_52 = 0))) false fun v_53 =>
  let t38_54 : Bool := bif r_4.1.1 then v_53 else false
  guardR t38_54 (some ()) () fun _ =>
  guardR t38_54 (some ()) () fun _ =>
  guardR t38_54 (some u_0.2.2.1.2.2.2.2.1.2.1) [] fun v_55 =>
  guardR t38_54 (some (v_55.length : Int)) 0 fun v_56 =>
  guardR t38_54 (some (decide (v_56 = 0))) false fun v_57 =>
  let t45_58 : Bool := bif t38_54 then v_57 else false
  guardR t45_58 (some ()) () fun _ =>
  guardR t45_58 (some u_0.2.1) 0 fun v_59 =>
  guardR t45_58 (batch_within v_59 0 255) ((false, ()), ()) fun r_60 =>
  let t51_61 : Bool := bif t45_58 then r_60.1.1 else false
  guardR t51_61 (some ()) () fun _ =>
  guardR t51_61 (some u_0.2.2.2.1) 0 fun v_62 =>
  guardR t51_61 (some (decide (v_62 = 0))) false fun v_63 =>
  let t56_64 : Bool := bif t51_61 then v_63 else false
  guardR t56_64 (some ()) () fun _ =>
  guardR t56_64 (some u_0.2.2.2.2.1) [] fun v_65 =>
  guardR t56_64 (some (v_65.length : Int)) 0 fun v_66 =>
  guardR t56_64 (some (decide (v_66 = 0))) false fun v_67 =>
  some (((bif t56_64 then v_67 else false), ()), ())

/-! ### shunter/batch.Encode$1 -/
noncomputable def batch_Encode_1_cc5 (u_0 : Int × Int × (Unit × Unit × Int × Int × (Int × Unit × Unit) × Unit) × Int × Unit × Unit) : Option ((Bool × Unit) × (Unit)) :=
  (batch_May_cc5 (u_0.1, u_0.2.1, (u_0.2.2.1.1, u_0.2.2.1.2.1, u_0.2.2.1.2.2.1, u_0.2.2.1.2.2.2.1, (u_0.2.2.1.2.2.2.2.1.1, u_0.2.2.1.2.2.2.2.1.2.1, ()), ()), u_0.2.2.2.1, u_0.2.2.2.2.1, ())).bind fun r_1 =>
  some ((!r_1.1.1, ()), ())

/-! ### shunter/batch.Encode$1 -/
noncomputable def batch_Encode_1 (u_0 : Int × Int × ((List (Int × Int × Int × Unit)) × (List (Int × Int × Int × Unit)) × Int × Int × (Int × (List (Int × Int × Int × Unit)) × Unit) × Unit) × Int × (List Int) × Unit) : Option ((Bool × Unit) × (Unit)) :=
  (batch_May (u_0.1, u_0.2.1, (u_0.2.2.1.1, u_0.2.2.1.2.1, u_0.2.2.1.2.2.1, u_0.2.2.1.2.2.2.1, (u_0.2.2.1.2.2.2.2.1.1, u_0.2.2.1.2.2.2.2.1.2.1, ()), ()), u_0.2.2.2.1, u_0.2.2.2.2.1, ())).bind fun r_1 =>
  some ((!r_1.1.1, ()), ())

/-! ### slices.IndexFunc[[]shunter/api.Update,shunter/api.Update] -/
noncomputable def slices_IndexFunc_api_Update_api_Update_b0c_s0 (s_0_0 : List (Int × Int × (Unit × Unit × Int × Int × (Int × Unit × Unit) × Unit) × Int × Unit × Unit)) (t7_7_0 : Int) (t8_8_0 : Int) : Option ((((List (Int × Int × (Unit × Unit × Int × Int × (Int × Unit × Unit) × Unit) × Int × Unit × Unit)) × Int × Int × Unit) × (Unit)) ⊕ ((Int × Unit) × (Unit))) :=
  bif (decide (t8_8_0 < t7_7_0)) then
    (rdI s_0_0 t8_8_0).bind fun v_3 =>
    (batch_Encode_1_cc5 v_3).bind fun r_4 =>
    bif r_4.1.1 then
      some (.inr ((t8_8_0, ()), ()))
    else
    some (.inl ((s_0_0, t7_7_0, (IntKind.i64.wrap (t8_8_0 + 1)), ()), ()))
  else
  some (.inr (((-1), ()), ()))
noncomputable def slices_IndexFunc_api_Update_api_Update_b0c (s_0 : List (Int × Int × (Unit × Unit × Int × Int × (Int × Unit × Unit) × Unit) × Int × Unit × Unit)) : Option ((Int × Unit) × (Unit)) :=
  loopR (fun (z : ((List (Int × Int × (Unit × Unit × Int × Int × (Int × Unit × Unit) × Unit) × Int × Unit × Unit)) × Int × Int × Unit) × (Unit)) => slices_IndexFunc_api_Update_api_Update_b0c_s0 z.1.1 z.1.2.1 z.1.2.2.1) ((s_0, (s_0.length : Int), 0, ()), ())

/-! ### slices.IndexFunc[[]shunter/api.Update,shunter/api.Update] -/
noncomputable def slices_IndexFunc_api_Update_api_Update_d99_s0 (s_0_0 : List (Int × Int × ((List (Int × Int × Int × Unit)) × (List (Int × Int × Int × Unit)) × Int × Int × (Int × (List (Int × Int × Int × Unit)) × Unit) × Unit) × Int × (List Int) × Unit)) (t7_7_0 : Int) (t8_8_0 : Int) : Option ((((List (Int × Int × ((List (Int × Int × Int × Unit)) × (List (Int × Int × Int × Unit)) × Int × Int × (Int × (List (Int × Int × Int × Unit)) × Unit) × Unit) × Int × (List Int) × Unit)) × Int × Int × Unit) × (Unit)) ⊕ ((Int × Unit) × (Unit))) :=
  bif (decide (t8_8_0 < t7_7_0)) then
    (rdI s_0_0 t8_8_0).bind fun v_3 =>
    (batch_Encode_1 v_3).bind fun r_4 =>
    bif r_4.1.1 then
      some (.inr ((t8_8_0, ()), ()))
    else
    some (.inl ((s_0_0, t7_7_0, (IntKind.i64.wrap (t8_8_0 + 1)), ()), ()))
  else
  some (.inr (((-1), ()), ()))
noncomputable def slices_IndexFunc_api_Update_api_Update_d99 (s_0 : List (Int × Int × ((List (Int × Int × Int × Unit)) × (List (Int × Int × Int × Unit)) × Int × Int × (Int × (List (Int × Int × Int × Unit)) × Unit) × Unit) × Int × (List Int) × Unit)) : Option ((Int × Unit) × (Unit)) :=
  loopR (fun (z : ((List (Int × Int × ((List (Int × Int × Int × Unit)) × (List (Int × Int × Int × Unit)) × Int × Int × (Int × (List (Int × Int × Int × Unit)) × Unit) × Unit) × Int × (List Int) × Unit)) × Int × Int × Unit) × (Unit)) => slices_IndexFunc_api_Update_api_Update_d99_s0 z.1.1 z.1.2.1 z.1.2.2.1) ((s_0, (s_0.length : Int), 0, ()), ())

/-! ### slices.ContainsFunc[[]shunter/api.Update,shunter/api.Update] -/
noncomputable def slices_ContainsFunc_api_Update_api_Update_b0c (s_0 : List (Int × Int × (Unit × Unit × Int × Int × (Int × Unit × Unit) × Unit) × Int × Unit × Unit)) : Option ((Bool × Unit) × (Unit)) :=
  (slices_IndexFunc_api_Update_api_Update_b0c s_0).bind fun r_1 =>
  some (((decide (r_1.1.1 ≥ 0)), ()), ())

/-! ### slices.ContainsFunc[[]shunter/api.Update,shunter/api.Update] -/
noncomputable def slices_ContainsFunc_api_Update_api_Update_d99 (s_0 : List (Int × Int × ((List (Int × Int × Int × Unit)) × (List (Int × Int × Int × Unit)) × Int × Int × (Int × (List (Int × Int × Int × Unit)) × Unit) × Unit) × Int × (List Int) × Unit)) : Option ((Bool × Unit) × (Unit)) :=
  (slices_IndexFunc_api_Update_api_Update_d99 s_0).bind fun r_1 =>
  some (((decide (r_1.1.1 ≥ 0)), ()), ())

/-! ### shunter/batch.one -/
noncomputable def batch_one_0f3 (b_0 : List Int) (u_1 : Int × Int × (Unit × Unit × Int × Int × (Int × Unit × Unit) × Unit) × Int × Unit × Unit) : Option (((List Int) × Unit) × (Unit)) :=
  (wire_Byte b_0 u_1.1).bind fun r_1 =>
  bif (decide (u_1.1 = 4)) then
    (wire_Byte r_1.1.1 u_1.2.2.2.1).bind fun r_3 =>
    (wire_Numbers r_3.1.1 []).bind fun r_4 =>
    some ((r_4.1.1, ()), ())
  else
  (wire_Byte r_1.1.1 u_1.2.1).bind fun r_5 =>
  (batch_matches u_1.1).bind fun r_6 =>
  bif r_6.1.1 then
    (wire_Vecs r_5.1.1 []).bind fun r_7 =>
    (wire_Vecs r_7.1.1 []).bind fun r_8 =>
    (wire_Two r_8.1.1 u_1.2.2.1.2.2.1).bind fun r_9 =>
    (wire_Two r_9.1.1 u_1.2.2.1.2.2.2.1).bind fun r_10 =>
    (batch_calls u_1.1).bind fun r_11 =>
    bif r_11.1.1 then
      (wire_Byte r_10.1.1 u_1.2.2.1.2.2.2.2.1.1).bind fun r_12 =>
      (wire_Vecs r_12.1.1 []).bind fun r_13 =>
      some ((r_13.1.1, ()), ())
    else
    some ((r_10.1.1, ()), ())
  else
  (batch_calls u_1.1).bind fun r_14 =>
  bif r_14.1.1 then
    (wire_Byte r_5.1.1 u_1.2.2.1.2.2.2.2.1.1).bind fun r_15 =>
    (wire_Vecs r_15.1.1 []).bind fun r_16 =>
    some ((r_16.1.1, ()), ())
  else
  some ((r_5.1.1, ()), ())

/-! ### shunter/batch.one -/
noncomputable def batch_one (b_0 : List Int) (u_1 : Int × Int × ((List (Int × Int × Int × Unit)) × (List (Int × Int × Int × Unit)) × Int × Int × (Int × (List (Int × Int × Int × Unit)) × Unit) × Unit) × Int × (List Int) × Unit) : Option (((List Int) × Unit) × (Unit)) :=
  (wire_Byte b_0 u_1.1).bind fun r_1 =>
  bif (decide (u_1.1 = 4)) then
    (wire_Byte r_1.1.1 u_1.2.2.2.1).bind fun r_3 =>
    (wire_Numbers r_3.1.1 u_1.2.2.2.2.1).bind fun r_4 =>
    some ((r_4.1.1, ()), ())
  else
  (wire_Byte r_1.1.1 u_1.2.1).bind fun r_5 =>
  (batch_matches u_1.1).bind fun r_6 =>
  bif r_6.1.1 then
    (wire_Vecs r_5.1.1 u_1.2.2.1.1).bind fun r_7 =>
    (wire_Vecs r_7.1.1 u_1.2.2.1.2.1).bind fun r_8 =>
    (wire_Two r_8.1.1 u_1.2.2.1.2.2.1).bind fun r_9 =>
    (wire_Two r_9.1.1 u_1.2.2.1.2.2.2.1).bind fun r_10 =>
    (batch_calls u_1.1).bind fun r_11 =>
    bif r_11.1.1 then
      (wire_Byte r_10.1.1 u_1.2.2.1.2.2.2.2.1.1).bind fun r_12 =>
      (wire_Vecs r_12.1.1 u_1.2.2.1.2.2.2.2.1.2.1).bind fun r_13 =>
      some ((r_13.1.1, ()), ())
    else
    some ((r_10.1.1, ()), ())
  else
  (batch_calls u_1.1).bind fun r_14 =>
  bif r_14.1.1 then
    (wire_Byte r_5.1.1 u_1.2.2.1.2.2.2.2.1.1).bind fun r_15 =>
    (wire_Vecs r_15.1.1 u_1.2.2.1.2.2.2.2.1.2.1).bind fun r_16 =>
    some ((r_16.1.1, ()), ())
  else
  some ((r_5.1.1, ()), ())

/-! ### shunter/batch.Encode -/
noncomputable def batch_Encode_f85_s1 (b_4_1 : List Int) (t17_17_1 : List (Int × Int × (Unit × Unit × Int × Int × (Int × Unit × Unit) × Unit) × Int × Unit × Unit)) (t18_18_1 : Int) (t19_19_1 : Int) : Option ((((List Int) × (List (Int × Int × (Unit × Unit × Int × Int × (Int × Unit × Unit) × Unit) × Int × Unit × Unit)) × Int × Int × Unit) × (Unit)) ⊕ (((List Int) × Int × Unit) × (Unit))) :=
  bif (decide (t19_19_1 < t18_18_1)) then
    (rdI t17_17_1 t19_19_1).bind fun v_8 =>
    (batch_one_0f3 b_4_1 v_8).bind fun r_9 =>
    some (.inl ((r_9.1.1, t17_17_1, t18_18_1, (IntKind.i64.wrap (t19_19_1 + 1)), ()), ()))
  else
  some (.inr ((b_4_1, 0, ()), ()))
noncomputable def batch_Encode_f85 (l_0 : List (Int × Int × (Unit × Unit × Int × Int × (Int × Unit × Unit) × Unit) × Int × Unit × Unit)) : Option (((List Int) × Int × Unit) × (Unit)) :=
  bif (decide ((l_0.length : Int) > 64)) then
    some (([], 2, ()), ())
  else
  (slices_ContainsFunc_api_Update_api_Update_b0c l_0).bind fun r_3 =>
  bif r_3.1.1 then
    some (([], 1, ()), ())
  else
  (wire_Byte [] (l_0.length : Int)).bind fun r_5 =>
  loopR (fun (z : ((List Int) × (List (Int × Int × (Unit × Unit × Int × Int × (Int × Unit × Unit) × Unit) × Int × Unit × Unit)) × Int × Int × Unit) × (Unit)) => batch_Encode_f85_s1 z.1.1 z.1.2.1 z.1.2.2.1 z.1.2.2.2.1) ((r_5.1.1, l_0, (l_0.length : Int), 0, ()), ())

/-! ### shunter/batch.Encode -/
noncomputable def batch_Encode_s1 (b_4_1 : List Int) (t17_17_1 : List (Int × Int × ((List (Int × Int × Int × Unit)) × (List (Int × Int × Int × Unit)) × Int × Int × (Int × (List (Int × Int × Int × Unit)) × Unit) × Unit) × Int × (List Int) × Unit)) (t18_18_1 : Int) (t19_19_1 : Int) : Option ((((List Int) × (List (Int × Int × ((List (Int × Int × Int × Unit)) × (List (Int × Int × Int × Unit)) × Int × Int × (Int × (List (Int × Int × Int × Unit)) × Unit) × Unit) × Int × (List Int) × Unit)) × Int × Int × Unit) × (Unit)) ⊕ (((List Int) × Int × Unit) × (Unit))) :=
  bif (decide (t19_19_1 < t18_18_1)) then
    (rdI t17_17_1 t19_19_1).bind fun v_8 =>
    (batch_one b_4_1 v_8).bind fun r_9 =>
    some (.inl ((r_9.1.1, t17_17_1, t18_18_1, (IntKind.i64.wrap (t19_19_1 + 1)), ()), ()))
  else
  some (.inr ((b_4_1, 0, ()), ()))
noncomputable def batch_Encode (l_0 : List (Int × Int × ((List (Int × Int × Int × Unit)) × (List (Int × Int × Int × Unit)) × Int × Int × (Int × (List (Int × Int × Int × Unit)) × Unit) × Unit) × Int × (List Int) × Unit)) : Option (((List Int) × Int × Unit) × (Unit)) :=
  bif (decide ((l_0.length : Int) > 64)) then
    some (([], 2, ()), ())
  else
  (slices_ContainsFunc_api_Update_api_Update_d99 l_0).bind fun r_3 =>
  bif r_3.1.1 then
    some (([], 1, ()), ())
  else
  (wire_Byte [] (l_0.length : Int)).bind fun r_5 =>
  loopR (fun (z : ((List Int) × (List (Int × Int × ((List (Int × Int × Int × Unit)) × (List (Int × Int × Int × Unit)) × Int × Int × (Int × (List (Int × Int × Int × Unit)) × Unit) × Unit) × Int × (List Int) × Unit)) × Int × Int × Unit) × (Unit)) => batch_Encode_s1 z.1.1 z.1.2.1 z.1.2.2.1 z.1.2.2.2.1) ((r_5.1.1, l_0, (l_0.length : Int), 0, ()), ())

/-! ### shunter/shunterref25.rows -/
noncomputable def ref25_rows_s0 (l_0_0 : List (Int × Int × Int × Unit)) (most_1_0 : Int) (i_5_0 : Int) : Option ((((List (Int × Int × Int × Unit)) × Int × Int × Unit) × (Unit)) ⊕ ((Bool × Unit) × (Unit))) :=
  bif (decide (i_5_0 < (l_0_0.length : Int))) then
    (rdI l_0_0 i_5_0).bind fun v_3 =>
    (ref02_May v_3).bind fun r_4 =>
    bif !r_4.1.1 then
      some (.inr ((false, ()), ()))
    else
    some (.inl ((l_0_0, most_1_0, (IntKind.i64.wrap (i_5_0 + 1)), ()), ()))
  else
  some (.inr (((decide ((l_0_0.length : Int) ≤ most_1_0)), ()), ()))
noncomputable def ref25_rows (l_0 : List (Int × Int × Int × Unit)) (most_1 : Int) : Option ((Bool × Unit) × (Unit)) :=
  loopR (fun (z : ((List (Int × Int × Int × Unit)) × Int × Int × Unit) × (Unit)) => ref25_rows_s0 z.1.1 z.1.2.1 z.1.2.2.1) ((l_0, most_1, 0, ()), ())

/-! ### shunter/shunterref25.in -/
noncomputable def ref25_in (n_0 : Int) (most_1 : Int) : Option ((Bool × Unit) × (Unit)) :=
  let t6_1 : Bool := decide (n_0 ≥ 0)
  guardR t6_1 (some ()) () fun _ =>
  guardR t6_1 (some ()) () fun _ =>
  guardR t6_1 (some (decide (n_0 ≤ most_1))) false fun v_2 =>
  some (((bif t6_1 then v_2 else false), ()), ())

/-! ### shunter/shunterref25.May -/
noncomputable def ref25_May_s1 (noRows_4_1 : Bool) (noCall_5_1 : Bool) (i_9_1 : Int) (p1_0_1 : Int × Int × ((List (Int × Int × Int × Unit)) × (List (Int × Int × Int × Unit)) × Int × Int × (Int × (List (Int × Int × Int × Unit)) × Unit) × Unit) × Int × (List Int) × Unit) : Option (((Bool × Bool × Int × Unit) × ((Int × Int × ((List (Int × Int × Int × Unit)) × (List (Int × Int × Int × Unit)) × Int × Int × (Int × (List (Int × Int × Int × Unit)) × Unit) × Unit) × Int × (List Int) × Unit) × Unit)) ⊕ ((Bool × Unit) × (Unit))) :=
  bif (decide (i_9_1 < (p1_0_1.2.2.2.2.1.length : Int))) then
    (rdI p1_0_1.2.2.2.2.1 i_9_1).bind fun v_52 =>
    (ref25_in v_52 255).bind fun r_53 =>
    bif !r_53.1.1 then
      some (.inr ((false, ()), ()))
    else
    some (.inl ((noRows_4_1, noCall_5_1, (IntKind.i64.wrap (i_9_1 + 1)), ()), (p1_0_1.1, p1_0_1.2.1, (p1_0_1.2.2.1.1, p1_0_1.2.2.1.2.1, p1_0_1.2.2.1.2.2.1, p1_0_1.2.2.1.2.2.2.1, (p1_0_1.2.2.1.2.2.2.2.1.1, p1_0_1.2.2.1.2.2.2.2.1.2.1, ()), ()), p1_0_1.2.2.2.1, p1_0_1.2.2.2.2.1, ()), ()))
  else
  let t133_55 : Bool := decide (p1_0_1.2.1 = 0)
  (guardR t133_55 (some ()) () fun _ =>
  let t136_56 : Bool := bif t133_55 then noRows_4_1 else false
  guardR t136_56 (some ()) () fun _ =>
  let t139_57 : Bool := bif t136_56 then noCall_5_1 else false
  guardR t139_57 (some ()) () fun _ =>
  guardR t139_57 (some p1_0_1.2.2.2.1) 0 fun v_58 =>
  guardR t139_57 (ref25_in v_58 255) ((false, ()), ()) fun r_59 =>
  let t144_60 : Bool := bif t139_57 then r_59.1.1 else false
  guardR t144_60 (some ()) () fun _ =>
  guardR t144_60 (some p1_0_1.2.2.2.2.1) [] fun v_61 =>
  guardR t144_60 (some (v_61.length : Int)) 0 fun v_62 =>
  guardR t144_60 (some (decide (v_62 ≤ 64))) false fun v_63 =>
  some (((bif t144_60 then v_63 else false), ()), ())).map .inr
noncomputable def ref25_May (u_0 : Int × Int × ((List (Int × Int × Int × Unit)) × (List (Int × Int × Int × Unit)) × Int × Int × (Int × (List (Int × Int × Int × Unit)) × Unit) × Unit) × Int × (List Int) × Unit) : Option ((Bool × Unit) × (Unit)) :=
  let t15_2 : Bool := decide ((u_0.2.2.1.1.length : Int) = 0)
  guardR t15_2 (some ()) () fun _ =>
  guardR t15_2 (some u_0.2.2.1.2.1) [] fun v_3 =>
  guardR t15_2 (some (v_3.length : Int)) 0 fun v_4 =>
  guardR t15_2 (some (decide (v_4 = 0))) false fun v_5 =>
  let t21_6 : Bool := bif t15_2 then v_5 else false
  guardR t21_6 (some ()) () fun _ =>
  guardR t21_6 (some u_0.2.2.1.2.2.1) 0 fun v_7 =>
  guardR t21_6 (some (decide (v_7 = 0))) false fun v_8 =>
  let t26_9 : Bool := bif t21_6 then v_8 else false
  guardR t26_9 (some ()) () fun _ =>
  guardR t26_9 (some u_0.2.2.1.2.2.2.1) 0 fun v_10 =>
  guardR t26_9 (some (decide (v_10 = 0))) false fun v_11 =>
  let t31_12 : Bool := bif t26_9 then v_11 else false
  let t35_13 : Bool := decide (u_0.2.2.1.2.2.2.2.1.1 = 0)
  guardR t35_13 (some ()) () fun _ =>
  guardR t35_13 (some ()) () fun _ =>
  guardR t35_13 (some u_0.2.2.1.2.2.2.2.1.2.1) [] fun v_14 =>
  guardR t35_13 (some (v_14.length : Int)) 0 fun v_15 =>
  guardR t35_13 (some (decide (v_15 = 0))) false fun v_16 =>
  let t42_17 : Bool := bif t35_13 then v_16 else false
  (ref25_rows u_0.2.2.1.1 4).bind fun r_18 =>
  guardR r_18.1.1 (some ()) () fun _ =>
  guardR r_18.1.1 (some u_0.2.2.1.2.1) [] fun v_19 =>
  guardR r_18.1.1 (ref25_rows v_19 4) ((false, ()), ()) fun r_20 =>
  let t50_21 : Bool := bif r_18.1.1 then r_20.1.1 else false
  guardR t50_21 (some ()) () fun _ =>
  guardR t50_21 (some u_0.2.2.1.2.2.1) 0 fun v_22 =>
  guardR t50_21 (ref25_in v_22 65535) ((false, ()), ()) fun r_23 =>
  let t55_24 : Bool := bif t50_21 then r_23.1.1 else false
  guardR t55_24 (some ()) () fun _ =>
  guardR t55_24 (some u_0.2.2.1.2.2.2.1) 0 fun v_25 =>
  guardR t55_24 (ref25_in v_25 65535) ((false, ()), ()) fun r_26 =>
  let t60_27 : Bool := bif t55_24 then r_26.1.1 else false
  (ref25_in u_0.2.2.1.2.2.2.2.1.1 255).bind fun r_28 =>
  guardR r_28.1.1 (some ()) () fun _ =>
  guardR r_28.1.1 (some ()) () fun _ =>
  guardR r_28.1.1 (some u_0.2.2.1.2.2.2.2.1.2.1) [] fun v_29 =>
  guardR r_28.1.1 (ref25_rows v_29 8) ((false, ()), ()) fun r_30 =>
  let t70_31 : Bool := bif r_28.1.1 then r_30.1.1 else false
  (ref25_in u_0.2.1 255).bind fun r_32 =>
  guardR r_32.1.1 (some ()) () fun _ =>
  guardR r_32.1.1 (some u_0.2.2.2.1) 0 fun v_33 =>
  guardR r_32.1.1 (some (decide (v_33 = 0))) false fun v_34 =>
  let t78_35 : Bool := bif r_32.1.1 then v_34 else false
  guardR t78_35 (some ()) () fun _ =>
  guardR t78_35 (some u_0.2.2.2.2.1) [] fun v_36 =>
  guardR t78_35 (some (v_36.length : Int)) 0 fun v_37 =>
  guardR t78_35 (some (decide (v_37 = 0))) false fun v_38 =>
  let t84_39 : Bool := bif t78_35 then v_38 else false
  let t88_40 : Bool := decide (u_0.1 = 0)
  bif t88_40 then
    bif t88_40 then
      guardR t84_39 (some ()) () fun _ =>
      let t93_41 : Bool := bif t84_39 then t60_27 else false
      guardR t93_41 (some ()) () fun _ =>
      some (((bif t93_41 then t70_31 else false), ()), ())
    else
    bif (decide (u_0.1 = 2)) then
      guardR t84_39 (some ()) () fun _ =>
      let t102_44 : Bool := bif t84_39 then t60_27 else false
      guardR t102_44 (some ()) () fun _ =>
      some (((bif t102_44 then t42_17 else false), ()), ())
    else
    bif (decide (u_0.1 = 3)) then
      guardR t84_39 (some ()) () fun _ =>
      let t111_47 : Bool := bif t84_39 then t31_12 else false
      guardR t111_47 (some ()) () fun _ =>
      some (((bif t111_47 then t70_31 else false), ()), ())
    else
    bif (decide (u_0.1 = 4)) then
      loopR (fun (z : (Bool × Bool × Int × Unit) × ((Int × Int × ((List (Int × Int × Int × Unit)) × (List (Int × Int × Int × Unit)) × Int × Int × (Int × (List (Int × Int × Int × Unit)) × Unit) × Unit) × Int × (List Int) × Unit) × Unit)) => ref25_May_s1 z.1.1 z.1.2.1 z.1.2.2.1 z.2.1) ((t31_12, t42_17, 0, ()), (u_0.1, u_0.2.1, (u_0.2.2.1.1, u_0.2.2.1.2.1, u_0.2.2.1.2.2.1, u_0.2.2.1.2.2.2.1, (u_0.2.2.1.2.2.2.2.1.1, u_0.2.2.1.2.2.2.2.1.2.1, ()), ()), u_0.2.2.2.1, u_0.2.2.2.2.1, ()), ())
    else
    some ((false, ()), ())
  else
  bif (decide (u_0.1 = 1)) then
    guardR t84_39 (some ()) () fun _ =>
    let t93_66 : Bool := bif t84_39 then t60_27 else false
    guardR t93_66 (some ()) () fun _ =>
    some (((bif t93_66 then t70_31 else false), ()), ())
  else
  bif (decide (u_0.1 = 2)) then
    guardR t84_39 (some ()) () fun _ =>
    let t102_69 : Bool := bif t84_39 then t60_27 else false
    guardR t102_69 (some ()) () fun _ =>
    some (((bif t102_69 then t42_17 else false), ()), ())
  else
  bif (decide (u_0.1 = 3)) then
    guardR t84_39 (some ()) () fun _ =>
    let t111_72 : Bool := bif t84_39 then t31_12 else false
    guardR t111_72 (some ()) () fun _ =>
    some (((bif t111_72 then t70_31 else false), ()), ())
  else
  bif (decide (u_0.1 = 4)) then
    loopR (fun (z : (Bool × Bool × Int × Unit) × ((Int × Int × ((List (Int × Int × Int × Unit)) × (List (Int × Int × Int × Unit)) × Int × Int × (Int × (List (Int × Int × Int × Unit)) × Unit) × Unit) × Int × (List Int) × Unit) × Unit)) => ref25_May_s1 z.1.1 z.1.2.1 z.1.2.2.1 z.2.1) ((t31_12, t42_17, 0, ()), (u_0.1, u_0.2.1, (u_0.2.2.1.1, u_0.2.2.1.2.1, u_0.2.2.1.2.2.1, u_0.2.2.1.2.2.2.1, (u_0.2.2.1.2.2.2.2.1.1, u_0.2.2.1.2.2.2.2.1.2.1, ()), ()), u_0.2.2.2.1, u_0.2.2.2.2.1, ()), ())
  else
  some ((false, ()), ())

/-! ### shunter/shunterref25.vecs -/
noncomputable def ref25_vecs_s0 (l_0_0 : List (Int × Int × Int × Unit)) (b_3_0 : List Int) (i_4_0 : Int) : Option ((((List (Int × Int × Int × Unit)) × (List Int) × Int × Unit) × (Unit)) ⊕ (((List Int) × Unit) × (Unit))) :=
  bif (decide (i_4_0 < (l_0_0.length : Int))) then
    (rdI l_0_0 i_4_0).bind fun v_5 =>
    (ref07_Vec v_5).bind fun r_6 =>
    (roomI 1 b_3_0 r_6.1.1).bind fun v_7 =>
    some (.inl ((l_0_0, v_7, (IntKind.i64.wrap (i_4_0 + 1)), ()), ()))
  else
  some (.inr ((b_3_0, ()), ()))
noncomputable def ref25_vecs (l_0 : List (Int × Int × Int × Unit)) : Option (((List Int) × Unit) × (Unit)) :=
  (ref07_Number (l_0.length : Int) 1).bind fun r_2 =>
  loopR (fun (z : ((List (Int × Int × Int × Unit)) × (List Int) × Int × Unit) × (Unit)) => ref25_vecs_s0 z.1.1 z.1.2.1 z.1.2.2.1) ((l_0, r_2.1.1, 0, ()), ())

/-! ### shunter/shunterref25.Bytes -/
noncomputable def ref25_Bytes_s0 (b_3_0 : List Int) (i_4_0 : Int) (p1_0_0 : Int × Int × ((List (Int × Int × Int × Unit)) × (List (Int × Int × Int × Unit)) × Int × Int × (Int × (List (Int × Int × Int × Unit)) × Unit) × Unit) × Int × (List Int) × Unit) : Option ((((List Int) × Int × Unit) × ((Int × Int × ((List (Int × Int × Int × Unit)) × (List (Int × Int × Int × Unit)) × Int × Int × (Int × (List (Int × Int × Int × Unit)) × Unit) × Unit) × Int × (List Int) × Unit) × Unit)) ⊕ (((List Int) × Unit) × (Unit))) :=
  bif (decide (i_4_0 < (p1_0_0.2.2.2.2.1.length : Int))) then
    (rdI p1_0_0.2.2.2.2.1 i_4_0).bind fun v_10 =>
    (ref07_Number v_10 1).bind fun r_11 =>
    (roomI 1 b_3_0 r_11.1.1).bind fun v_12 =>
    some (.inl ((v_12, (IntKind.i64.wrap (i_4_0 + 1)), ()), (p1_0_0.1, p1_0_0.2.1, (p1_0_0.2.2.1.1, p1_0_0.2.2.1.2.1, p1_0_0.2.2.1.2.2.1, p1_0_0.2.2.1.2.2.2.1, (p1_0_0.2.2.1.2.2.2.2.1.1, p1_0_0.2.2.1.2.2.2.2.1.2.1, ()), ()), p1_0_0.2.2.2.1, p1_0_0.2.2.2.2.1, ()), ()))
  else
  some (.inr ((b_3_0, ()), ()))
noncomputable def ref25_Bytes (u_0 : Int × Int × ((List (Int × Int × Int × Unit)) × (List (Int × Int × Int × Unit)) × Int × Int × (Int × (List (Int × Int × Int × Unit)) × Unit) × Unit) × Int × (List Int) × Unit) : Option (((List Int) × Unit) × (Unit)) :=
  (ref07_Number u_0.1 1).bind fun r_1 =>
  bif (decide (u_0.1 = 4)) then
    (ref07_Number u_0.2.2.2.1 1).bind fun r_3 =>
    (roomI 1 r_1.1.1 r_3.1.1).bind fun v_4 =>
    (ref07_Number (u_0.2.2.2.2.1.length : Int) 1).bind fun r_6 =>
    (roomI 1 v_4 r_6.1.1).bind fun v_7 =>
    loopR (fun (z : ((List Int) × Int × Unit) × ((Int × Int × ((List (Int × Int × Int × Unit)) × (List (Int × Int × Int × Unit)) × Int × Int × (Int × (List (Int × Int × Int × Unit)) × Unit) × Unit) × Int × (List Int) × Unit) × Unit)) => ref25_Bytes_s0 z.1.1 z.1.2.1 z.2.1) ((v_7, 0, ()), (u_0.1, u_0.2.1, (u_0.2.2.1.1, u_0.2.2.1.2.1, u_0.2.2.1.2.2.1, u_0.2.2.1.2.2.2.1, (u_0.2.2.1.2.2.2.2.1.1, u_0.2.2.1.2.2.2.2.1.2.1, ()), ()), u_0.2.2.2.1, u_0.2.2.2.2.1, ()), ())
  else
  (ref07_Number u_0.2.1 1).bind fun r_14 =>
  (roomI 1 r_1.1.1 r_14.1.1).bind fun v_15 =>
  bif (!decide (u_0.1 = 3)) then
    (ref25_vecs u_0.2.2.1.1).bind fun r_17 =>
    (roomI 1 v_15 r_17.1.1).bind fun v_18 =>
    (ref25_vecs u_0.2.2.1.2.1).bind fun r_19 =>
    (roomI 1 v_18 r_19.1.1).bind fun v_20 =>
    (ref07_Number u_0.2.2.1.2.2.1 2).bind fun r_21 =>
    (roomI 1 v_20 r_21.1.1).bind fun v_22 =>
    (ref07_Number u_0.2.2.1.2.2.2.1 2).bind fun r_23 =>
    (roomI 1 v_22 r_23.1.1).bind fun v_24 =>
    bif (!decide (u_0.1 = 2)) then
      (ref07_Number u_0.2.2.1.2.2.2.2.1.1 1).bind fun r_26 =>
      (roomI 1 v_24 r_26.1.1).bind fun v_27 =>
      (ref25_vecs u_0.2.2.1.2.2.2.2.1.2.1).bind fun r_28 =>
      (roomI 1 v_27 r_28.1.1).bind fun v_29 =>
      some ((v_29, ()), ())
    else
    some ((v_24, ()), ())
  else
  bif (!decide (u_0.1 = 2)) then
    (ref07_Number u_0.2.2.1.2.2.2.2.1.1 1).bind fun r_31 =>
    (roomI 1 v_15 r_31.1.1).bind fun v_32 =>
    (ref25_vecs u_0.2.2.1.2.2.2.2.1.2.1).bind fun r_33 =>
    (roomI 1 v_32 r_33.1.1).bind fun v_34 =>
    some ((v_34, ()), ())
  else
  some ((v_15, ()), ())

/-! ### shunter/batch.same -/
noncomputable def batch_same (a_0 : Int × (List (Int × Int × Int × Unit)) × Unit) (b_1 : Int × (List (Int × Int × Int × Unit)) × Unit) : Option ((Bool × Unit) × (Unit)) :=
  let t9_1 : Bool := decide (a_0.1 = b_1.1)
  guardR t9_1 (some ()) () fun _ =>
  guardR t9_1 (some a_0.2.1) [] fun v_2 =>
  guardR t9_1 (some ()) () fun _ =>
  guardR t9_1 (some b_1.2.1) [] fun v_3 =>
  guardR t9_1 (slices_Equal_api_Vec_api_Vec v_2 v_3) ((false, ()), ()) fun r_4 =>
  some (((bif t9_1 then r_4.1.1 else false), ()), ())

/-! ### shunter/batch.Same -/
noncomputable def batch_Same (a_0 : Int × Int × ((List (Int × Int × Int × Unit)) × (List (Int × Int × Int × Unit)) × Int × Int × (Int × (List (Int × Int × Int × Unit)) × Unit) × Unit) × Int × (List Int) × Unit) (b_1 : Int × Int × ((List (Int × Int × Int × Unit)) × (List (Int × Int × Int × Unit)) × Int × Int × (Int × (List (Int × Int × Int × Unit)) × Unit) × Unit) × Int × (List Int) × Unit) : Option ((Bool × Unit) × (Unit)) :=
  (slices_Equal_api_Vec_api_Vec a_0.2.2.1.1 b_1.2.2.1.1).bind fun r_1 =>
  guardR r_1.1.1 (some ()) () fun _ =>
  guardR r_1.1.1 (some a_0.2.2.1.2.1) [] fun v_2 =>
  guardR r_1.1.1 (some ()) () fun _ =>
  guardR r_1.1.1 (some b_1.2.2.1.2.1) [] fun v_3 =>
  guardR r_1.1.1 (slices_Equal_api_Vec_api_Vec v_2 v_3) ((false, ()), ()) fun r_4 =>
  let t23_5 : Bool := bif r_1.1.1 then r_4.1.1 else false
  guardR t23_5 (some ()) () fun _ =>
  guardR t23_5 (some a_0.2.2.1.2.2.1) 0 fun v_6 =>
  guardR t23_5 (some ()) () fun _ =>
  guardR t23_5 (some b_1.2.2.1.2.2.1) 0 fun v_7 =>
  guardR t23_5 (some (decide (v_6 = v_7))) false fun v_8 =>
  let t30_9 : Bool := bif t23_5 then v_8 else false
  guardR t30_9 (some ()) () fun _ =>
  guardR t30_9 (some a_0.2.2.1.2.2.2.1) 0 fun v_10 =>
  guardR t30_9 (some ()) () fun _ =>
  guardR t30_9 (some b_1.2.2.1.2.2.2.1) 0 fun v_11 =>
  guardR t30_9 (some (decide (v_10 = v_11))) false fun v_12 =>
  let t42_14 : Bool := decide (a_0.1 = b_1.1)
  guardR t42_14 (some ()) () fun _ =>
  guardR t42_14 (some a_0.2.1) 0 fun v_15 =>
  guardR t42_14 (some ()) () fun _ =>
  guardR t42_14 (some b_1.2.1) 0 fun v_16 =>
  guardR t42_14 (some (decide (v_15 = v_16))) false fun v_17 =>
  let t49_18 : Bool := bif t42_14 then v_17 else false
  guardR t49_18 (some ()) () fun _ =>
  let t52_19 : Bool := bif t49_18 then (bif t30_9 then v_12 else false) else false
  guardR t52_19 (some ()) () fun _ =>
  guardR t52_19 (some (a_0.2.2.1.2.2.2.2.1.1, a_0.2.2.1.2.2.2.2.1.2.1, ())) (0, [], ()) fun v_20 =>
  guardR t52_19 (some ()) () fun _ =>
  guardR t52_19 (some (b_1.2.2.1.2.2.2.2.1.1, b_1.2.2.1.2.2.2.2.1.2.1, ())) (0, [], ()) fun v_21 =>
  guardR t52_19 (batch_same v_20 v_21) ((false, ()), ()) fun r_22 =>
  let t59_23 : Bool := bif t52_19 then r_22.1.1 else false
  guardR t59_23 (some ()) () fun _ =>
  guardR t59_23 (some a_0.2.2.2.1) 0 fun v_24 =>
  guardR t59_23 (some ()) () fun _ =>
  guardR t59_23 (some b_1.2.2.2.1) 0 fun v_25 =>
  guardR t59_23 (some (decide (v_24 = v_25))) false fun v_26 =>
  let t66_27 : Bool := bif t59_23 then v_26 else false
  guardR t66_27 (some ()) () fun _ =>
  guardR t66_27 (some a_0.2.2.2.2.1) [] fun v_28 =>
  guardR t66_27 (some ()) () fun _ =>
  guardR t66_27 (some b_1.2.2.2.2.1) [] fun v_29 =>
  guardR t66_27 (slices_Equal_int_int v_28 v_29) ((false, ()), ()) fun r_30 =>
  some (((bif t66_27 then r_30.1.1 else false), ()), ())

/-! ### shunter/shunterref25.Same -/
noncomputable def ref25_Same_s0 (i_7_0 : Int) (p2_0_0 : Int × Int × ((List (Int × Int × Int × Unit)) × (List (Int × Int × Int × Unit)) × Int × Int × (Int × (List (Int × Int × Int × Unit)) × Unit) × Unit) × Int × (List Int) × Unit) (p3_0_0 : Int × Int × ((List (Int × Int × Int × Unit)) × (List (Int × Int × Int × Unit)) × Int × Int × (Int × (List (Int × Int × Int × Unit)) × Unit) × Unit) × Int × (List Int) × Unit) (p5_0_0 : (List (Int × Int × Int × Unit)) × (List (Int × Int × Int × Unit)) × Int × Int × (Int × (List (Int × Int × Int × Unit)) × Unit) × Unit) (p6_0_0 : (List (Int × Int × Int × Unit)) × (List (Int × Int × Int × Unit)) × Int × Int × (Int × (List (Int × Int × Int × Unit)) × Unit) × Unit) : Option (((Int × Unit) × ((Int × Int × ((List (Int × Int × Int × Unit)) × (List (Int × Int × Int × Unit)) × Int × Int × (Int × (List (Int × Int × Int × Unit)) × Unit) × Unit) × Int × (List Int) × Unit) × (Int × Int × ((List (Int × Int × Int × Unit)) × (List (Int × Int × Int × Unit)) × Int × Int × (Int × (List (Int × Int × Int × Unit)) × Unit) × Unit) × Int × (List Int) × Unit) × ((List (Int × Int × Int × Unit)) × (List (Int × Int × Int × Unit)) × Int × Int × (Int × (List (Int × Int × Int × Unit)) × Unit) × Unit) × ((List (Int × Int × Int × Unit)) × (List (Int × Int × Int × Unit)) × Int × Int × (Int × (List (Int × Int × Int × Unit)) × Unit) × Unit) × Unit)) ⊕ ((Bool × Unit) × (Unit))) :=
  bif (decide (i_7_0 < (p2_0_0.2.2.2.2.1.length : Int))) then
    (rdI p2_0_0.2.2.2.2.1 i_7_0).bind fun v_6 =>
    (rdI p3_0_0.2.2.2.2.1 i_7_0).bind fun v_7 =>
    bif (!decide (v_6 = v_7)) then
      some (.inr ((false, ()), ()))
    else
    some (.inl (((IntKind.i64.wrap (i_7_0 + 1)), ()), (p2_0_0.1, p2_0_0.2.1, (p2_0_0.2.2.1.1, p2_0_0.2.2.1.2.1, p2_0_0.2.2.1.2.2.1, p2_0_0.2.2.1.2.2.2.1, (p2_0_0.2.2.1.2.2.2.2.1.1, p2_0_0.2.2.1.2.2.2.2.1.2.1, ()), ()), p2_0_0.2.2.2.1, p2_0_0.2.2.2.2.1, ()), (p3_0_0.1, p3_0_0.2.1, (p3_0_0.2.2.1.1, p3_0_0.2.2.1.2.1, p3_0_0.2.2.1.2.2.1, p3_0_0.2.2.1.2.2.2.1, (p3_0_0.2.2.1.2.2.2.2.1.1, p3_0_0.2.2.1.2.2.2.2.1.2.1, ()), ()), p3_0_0.2.2.2.1, p3_0_0.2.2.2.2.1, ()), (p5_0_0.1, p5_0_0.2.1, p5_0_0.2.2.1, p5_0_0.2.2.2.1, (p5_0_0.2.2.2.2.1.1, p5_0_0.2.2.2.2.1.2.1, ()), ()), (p6_0_0.1, p6_0_0.2.1, p6_0_0.2.2.1, p6_0_0.2.2.2.1, (p6_0_0.2.2.2.2.1.1, p6_0_0.2.2.2.2.1.2.1, ()), ()), ()))
  else
  let t41_10 : Bool := decide (p2_0_0.1 = p3_0_0.1)
  (guardR t41_10 (some ()) () fun _ =>
  guardR t41_10 (some p2_0_0.2.1) 0 fun v_11 =>
  guardR t41_10 (some ()) () fun _ =>
  guardR t41_10 (some p3_0_0.2.1) 0 fun v_12 =>
  guardR t41_10 (some (decide (v_11 = v_12))) false fun v_13 =>
  let t48_14 : Bool := bif t41_10 then v_13 else false
  guardR t48_14 (some ()) () fun _ =>
  guardR t48_14 (some p2_0_0.2.2.2.1) 0 fun v_15 =>
  guardR t48_14 (some ()) () fun _ =>
  guardR t48_14 (some p3_0_0.2.2.2.1) 0 fun v_16 =>
  guardR t48_14 (some (decide (v_15 = v_16))) false fun v_17 =>
  let t55_18 : Bool := bif t48_14 then v_17 else false
  guardR t55_18 (some ()) () fun _ =>
  guardR t55_18 (some p5_0_0.1) [] fun v_19 =>
  guardR t55_18 (some ()) () fun _ =>
  guardR t55_18 (some p6_0_0.1) [] fun v_20 =>
  guardR t55_18 (ref22_Same v_19 v_20) ((false, ()), ()) fun r_21 =>
  let t62_22 : Bool := bif t55_18 then r_21.1.1 else false
  guardR t62_22 (some ()) () fun _ =>
  guardR t62_22 (some p5_0_0.2.1) [] fun v_23 =>
  guardR t62_22 (some ()) () fun _ =>
  guardR t62_22 (some p6_0_0.2.1) [] fun v_24 =>
  guardR t62_22 (ref22_Same v_23 v_24) ((false, ()), ()) fun r_25 =>
  let t69_26 : Bool := bif t62_22 then r_25.1.1 else false
  guardR t69_26 (some ()) () fun _ =>
  guardR t69_26 (some p5_0_0.2.2.1) 0 fun v_27 =>
  guardR t69_26 (some ()) () fun _ =>
  guardR t69_26 (some p6_0_0.2.2.1) 0 fun v_28 =>
  guardR t69_26 (some (decide (v_27 = v_28))) false fun v_29 =>
  let t76_30 : Bool := bif t69_26 then v_29 else false
  guardR t76_30 (some ()) () fun _ =>
  guardR t76_30 (some p5_0_0.2.2.2.1) 0 fun v_31 =>
  guardR t76_30 (some ()) () fun _ =>
  guardR t76_30 (some p6_0_0.2.2.2.1) 0 fun v_32 =>
  guardR t76_30 (some (decide (v_31 = v_32))) false fun v_33 =>
  let t83_34 : Bool := bif t76_30 then v_33 else false
  guardR t83_34 (some ()) () fun _ =>
  guardR t83_34 (some ()) () fun _ =>
  guardR t83_34 (some p5_0_0.2.2.2.2.1.1) 0 fun v_35 =>
  guardR t83_34 (some ()) () fun _ =>
  guardR t83_34 (some ()) () fun _ =>
  guardR t83_34 (some p6_0_0.2.2.2.2.1.1) 0 fun v_36 =>
  guardR t83_34 (some (decide (v_35 = v_36))) false fun v_37 =>
  let t92_38 : Bool := bif t83_34 then v_37 else false
  guardR t92_38 (some ()) () fun _ =>
  guardR t92_38 (some ()) () fun _ =>
  guardR t92_38 (some p5_0_0.2.2.2.2.1.2.1) [] fun v_39 =>
  guardR t92_38 (some ()) () fun _ =>
  guardR t92_38 (some ()) () fun _ =>
  guardR t92_38 (some p6_0_0.2.2.2.2.1.2.1) [] fun v_40 =>
  guardR t92_38 (ref22_Same v_39 v_40) ((false, ()), ()) fun r_41 =>
  some (((bif t92_38 then r_41.1.1 else false), ()), ())).map .inr
noncomputable def ref25_Same (a_0 : Int × Int × ((List (Int × Int × Int × Unit)) × (List (Int × Int × Int × Unit)) × Int × Int × (Int × (List (Int × Int × Int × Unit)) × Unit) × Unit) × Int × (List Int) × Unit) (b_1 : Int × Int × ((List (Int × Int × Int × Unit)) × (List (Int × Int × Int × Unit)) × Int × Int × (Int × (List (Int × Int × Int × Unit)) × Unit) × Unit) × Int × (List Int) × Unit) : Option ((Bool × Unit) × (Unit)) :=
  bif (!decide ((a_0.2.2.2.2.1.length : Int) = (b_1.2.2.2.2.1.length : Int))) then
    some ((false, ()), ())
  else
  loopR (fun (z : (Int × Unit) × ((Int × Int × ((List (Int × Int × Int × Unit)) × (List (Int × Int × Int × Unit)) × Int × Int × (Int × (List (Int × Int × Int × Unit)) × Unit) × Unit) × Int × (List Int) × Unit) × (Int × Int × ((List (Int × Int × Int × Unit)) × (List (Int × Int × Int × Unit)) × Int × Int × (Int × (List (Int × Int × Int × Unit)) × Unit) × Unit) × Int × (List Int) × Unit) × ((List (Int × Int × Int × Unit)) × (List (Int × Int × Int × Unit)) × Int × Int × (Int × (List (Int × Int × Int × Unit)) × Unit) × Unit) × ((List (Int × Int × Int × Unit)) × (List (Int × Int × Int × Unit)) × Int × Int × (Int × (List (Int × Int × Int × Unit)) × Unit) × Unit) × Unit)) => ref25_Same_s0 z.1.1 z.2.1 z.2.2.1 z.2.2.2.1 z.2.2.2.2.1) ((0, ()), (a_0.1, a_0.2.1, (a_0.2.2.1.1, a_0.2.2.1.2.1, a_0.2.2.1.2.2.1, a_0.2.2.1.2.2.2.1, (a_0.2.2.1.2.2.2.2.1.1, a_0.2.2.1.2.2.2.2.1.2.1, ()), ()), a_0.2.2.2.1, a_0.2.2.2.2.1, ()), (b_1.1, b_1.2.1, (b_1.2.2.1.1, b_1.2.2.1.2.1, b_1.2.2.1.2.2.1, b_1.2.2.1.2.2.2.1, (b_1.2.2.1.2.2.2.2.1.1, b_1.2.2.1.2.2.2.2.1.2.1, ()), ()), b_1.2.2.2.1, b_1.2.2.2.2.1, ()), (a_0.2.2.1.1, a_0.2.2.1.2.1, a_0.2.2.1.2.2.1, a_0.2.2.1.2.2.2.1, (a_0.2.2.1.2.2.2.2.1.1, a_0.2.2.1.2.2.2.2.1.2.1, ()), ()), (b_1.2.2.1.1, b_1.2.2.1.2.1, b_1.2.2.1.2.2.1, b_1.2.2.1.2.2.2.1, (b_1.2.2.1.2.2.2.2.1.1, b_1.2.2.1.2.2.2.2.1.2.1, ()), ()), ())

/-! ### shunter/batch.Copy -/
noncomputable def batch_Copy (u_0 : Int × Int × ((List (Int × Int × Int × Unit)) × (List (Int × Int × Int × Unit)) × Int × Int × (Int × (List (Int × Int × Int × Unit)) × Unit) × Unit) × Int × (List Int) × Unit) : Option (((Int × Int × ((List (Int × Int × Int × Unit)) × (List (Int × Int × Int × Unit)) × Int × Int × (Int × (List (Int × Int × Int × Unit)) × Unit) × Unit) × Int × (List Int) × Unit) × Unit) × (Unit)) :=
  (slices_Clone_int_int u_0.2.2.2.2.1).bind fun r_1 =>
  (slices_Clone_api_Vec_api_Vec u_0.2.2.1.1).bind fun r_2 =>
  (slices_Clone_api_Vec_api_Vec u_0.2.2.1.2.1).bind fun r_3 =>
  (slices_Clone_api_Vec_api_Vec u_0.2.2.1.2.2.2.2.1.2.1).bind fun r_4 =>
  some (((u_0.1, u_0.2.1, (r_2.1.1, r_3.1.1, u_0.2.2.1.2.2.1, u_0.2.2.1.2.2.2.1, (u_0.2.2.1.2.2.2.2.1.1, r_4.1.1, ()), ()), u_0.2.2.2.1, r_1.1.1, ()), ()), ())

/-! ### shunter/batch.readMatch -/
noncomputable def batch_readMatch_59d (r_0 : ((List Int) × Int × (Option (Int × Int × Unit)) × Unit) × Unit) : Option ((((List (Int × Int × Int × Unit)) × (List (Int × Int × Int × Unit)) × Int × Int × (Int × Unit × Unit) × Unit) × Unit) × ((((List Int) × Int × (Option (Int × Int × Unit)) × Unit) × Unit) × Unit)) :=
  (wire_Reader_Vecs_e57 ((r_0.1.1, r_0.1.2.1, r_0.1.2.2.1, ()), ()) 4).bind fun r_1 =>
  (wire_Reader_Vecs_e57 r_1.2.1 4).bind fun r_2 =>
  (wire_Reader_Two_e57 r_2.2.1 65535).bind fun r_3 =>
  (wire_Reader_Two_e57 r_3.2.1 65535).bind fun r_4 =>
  some (((r_1.1.1, r_2.1.1, r_3.1.1, r_4.1.1, (0, (), ()), ()), ()), r_4.2.1, ())

/-! ### shunter/batch.readCall -/
noncomputable def batch_readCall_59d (r_0 : ((List Int) × Int × (Option (Int × Int × Unit)) × Unit) × Unit) : Option (((Int × (List (Int × Int × Int × Unit)) × Unit) × Unit) × ((((List Int) × Int × (Option (Int × Int × Unit)) × Unit) × Unit) × Unit)) :=
  (wire_Reader_Byte_e57 ((r_0.1.1, r_0.1.2.1, r_0.1.2.2.1, ()), ()) 255).bind fun r_1 =>
  (wire_Reader_Vecs_e57 r_1.2.1 8).bind fun r_2 =>
  some (((r_1.1.1, r_2.1.1, ()), ()), r_2.2.1, ())

/-! ### shunter/batch.read -/
noncomputable def batch_read_59d (r_0 : ((List Int) × Int × (Option (Int × Int × Unit)) × Unit) × Unit) : Option (((Int × Int × ((List (Int × Int × Int × Unit)) × (List (Int × Int × Int × Unit)) × Int × Int × (Int × (List (Int × Int × Int × Unit)) × Unit) × Unit) × Int × (List Int) × Unit) × Unit) × ((((List Int) × Int × (Option (Int × Int × Unit)) × Unit) × Unit) × Unit)) :=
  (wire_Reader_Byte_e57 ((r_0.1.1, r_0.1.2.1, r_0.1.2.2.1, ()), ()) 4).bind fun r_1 =>
  bif (decide (r_1.1.1 = 4)) then
    (wire_Reader_Byte_e57 r_1.2.1 255).bind fun r_3 =>
    (wire_Reader_Numbers_28a r_3.2.1 64 255).bind fun r_4 =>
    some (((r_1.1.1, 0, ([], [], 0, 0, (0, [], ()), ()), r_3.1.1, r_4.1.1, ()), ()), r_4.2.1, ())
  else
  (wire_Reader_Byte_e57 r_1.2.1 255).bind fun r_5 =>
  bif (decide (r_1.1.1 = 2)) then
    (batch_readMatch_59d r_5.2.1).bind fun r_7 =>
    some (((r_1.1.1, r_5.1.1, (r_7.1.1.1, r_7.1.1.2.1, r_7.1.1.2.2.1, r_7.1.1.2.2.2.1, (r_7.1.1.2.2.2.2.1.1, [], r_7.1.1.2.2.2.2.1.2.2), r_7.1.1.2.2.2.2.2), 0, [], ()), ()), r_7.2.1, ())
  else
  let t25_8 : Bool := decide (r_1.1.1 = 0)
  bif t25_8 then
    bif t25_8 then
      (batch_readMatch_59d r_5.2.1).bind fun r_9 =>
      (batch_readCall_59d r_9.2.1).bind fun r_10 =>
      some (((r_1.1.1, r_5.1.1, (r_9.1.1.1, r_9.1.1.2.1, r_9.1.1.2.2.1, r_9.1.1.2.2.2.1, r_10.1.1, r_9.1.1.2.2.2.2.2), 0, [], ()), ()), r_10.2.1, ())
    else
    (batch_readCall_59d r_5.2.1).bind fun r_11 =>
    some (((r_1.1.1, r_5.1.1, ([], [], 0, 0, r_11.1.1, ()), 0, [], ()), ()), r_11.2.1, ())
  else
  bif (decide (r_1.1.1 = 1)) then
    (batch_readMatch_59d r_5.2.1).bind fun r_13 =>
    (batch_readCall_59d r_13.2.1).bind fun r_14 =>
    some (((r_1.1.1, r_5.1.1, (r_13.1.1.1, r_13.1.1.2.1, r_13.1.1.2.2.1, r_13.1.1.2.2.2.1, r_14.1.1, r_13.1.1.2.2.2.2.2), 0, [], ()), ()), r_14.2.1, ())
  else
  (batch_readCall_59d r_5.2.1).bind fun r_15 =>
  some (((r_1.1.1, r_5.1.1, ([], [], 0, 0, r_15.1.1, ()), 0, [], ()), ()), r_15.2.1, ())

/-! ### shunter/batch.Prefix -/
noncomputable def batch_Prefix_s0 (l_5_0 : List (Int × Int × ((List (Int × Int × Int × Unit)) × (List (Int × Int × Int × Unit)) × Int × Int × (Int × (List (Int × Int × Int × Unit)) × Unit) × Unit) × Int × (List Int) × Unit)) (t10_10_0 : Int) (t11_11_0 : Int) (p8_0_0 : ((List Int) × Int × (Option (Int × Int × Unit)) × Unit) × Unit) : Option ((((List (Int × Int × ((List (Int × Int × Int × Unit)) × (List (Int × Int × Int × Unit)) × Int × Int × (Int × (List (Int × Int × Int × Unit)) × Unit) × Unit) × Int × (List Int) × Unit)) × Int × Int × Unit) × ((((List Int) × Int × (Option (Int × Int × Unit)) × Unit) × Unit) × Unit)) ⊕ (((List (Int × Int × ((List (Int × Int × Int × Unit)) × (List (Int × Int × Int × Unit)) × Int × Int × (Int × (List (Int × Int × Int × Unit)) × Unit) × Unit) × Int × (List Int) × Unit)) × ((Option (Int × Int × Unit)) ⊕ Unit) × Unit) × (Unit))) :=
  bif (decide (t11_11_0 < t10_10_0)) then
    (batch_read_59d ((p8_0_0.1.1, p8_0_0.1.2.1, p8_0_0.1.2.2.1, ()), ())).bind fun r_4 =>
    (wire_Reader_Bad_59d r_4.2.1).bind fun r_5 =>
    bif r_5.1.1 then
      ((wire_Reader_End_59d r_5.2.1).bind fun r_6 =>
      some ((l_5_0, r_6.1.1, ()), ())).map .inr
    else
    (roomI 144 l_5_0 [r_4.1.1]).bind fun v_7 =>
    some (.inl ((v_7, t10_10_0, (IntKind.i64.wrap (t11_11_0 + 1)), ()), r_5.2.1, ()))
  else
  ((wire_Reader_End_59d ((p8_0_0.1.1, p8_0_0.1.2.1, p8_0_0.1.2.2.1, ()), ())).bind fun r_9 =>
  some ((l_5_0, r_9.1.1, ()), ())).map .inr
noncomputable def batch_Prefix (b_0 : List Int) : Option (((List (Int × Int × ((List (Int × Int × Int × Unit)) × (List (Int × Int × Int × Unit)) × Int × Int × (Int × (List (Int × Int × Int × Unit)) × Unit) × Unit) × Int × (List Int) × Unit)) × ((Option (Int × Int × Unit)) ⊕ Unit) × Unit) × (Unit)) :=
  (wire_Read b_0).bind fun r_1 =>
  (wire_Reader_Byte_db0 r_1.1.1 64).bind fun r_2 =>
  loopR (fun (z : ((List (Int × Int × ((List (Int × Int × Int × Unit)) × (List (Int × Int × Int × Unit)) × Int × Int × (Int × (List (Int × Int × Int × Unit)) × Unit) × Unit) × Int × (List Int) × Unit)) × Int × Int × Unit) × ((((List Int) × Int × (Option (Int × Int × Unit)) × Unit) × Unit) × Unit)) => batch_Prefix_s0 z.1.1 z.1.2.1 z.1.2.2.1 z.2.1) (([], r_2.1.1, 0, ()), r_2.2.1, ())

/-! ### shunter/batch.Decode -/
noncomputable def batch_Decode (b_0 : List Int) : Option (((List (Int × Int × ((List (Int × Int × Int × Unit)) × (List (Int × Int × Int × Unit)) × Int × Int × (Int × (List (Int × Int × Int × Unit)) × Unit) × Unit) × Int × (List Int) × Unit)) × Int × ((Option (Int × Int × Unit)) ⊕ Unit) × Unit) × (Unit)) :=
  (batch_Prefix b_0).bind fun r_1 =>
  bif (!(isNil1 r_1.1.2.1)) then
    some (([], (r_1.1.1.length : Int), r_1.1.2.1, ()), ())
  else
  some ((r_1.1.1, (r_1.1.1.length : Int), .inr (), ()), ())

/-! ### shunter/shunterref25.takeVecs -/
noncomputable def ref25_takeVecs_s0 (n_6_0 : Int) (l_7_0 : List (Int × Int × Int × Unit)) (i_8_0 : Int) (p2_0_0 : (List Int) × Int × Int × Int × Unit) (p4_0_0 : Unit × Int × Int × Int × Unit) : Option (((Int × (List (Int × Int × Int × Unit)) × Int × Unit) × (((List Int) × Int × Int × Int × Unit) × (Unit × Int × Int × Int × Unit) × Unit)) ⊕ ((((List Int) × Int × Int × Int × Unit) × (List (Int × Int × Int × Unit)) × Unit) × (Unit))) :=
  bif (decide (i_8_0 < n_6_0)) then
    (ref07_TakeVec (p2_0_0.1, p2_0_0.2.1, p2_0_0.2.2.1, p2_0_0.2.2.2.1, ())).bind fun r_3 =>
    (roomI 24 l_7_0 [r_3.1.2.1]).bind fun v_4 =>
    some (.inl ((n_6_0, v_4, (IntKind.i64.wrap (i_8_0 + 1)), ()), r_3.1.1, (p4_0_0.1, p4_0_0.2.1, p4_0_0.2.2.1, p4_0_0.2.2.2.1, ()), ()))
  else
  (bif (!decide (p2_0_0.2.2.1 = 0)) then
    some (((p2_0_0.1, p2_0_0.2.1, p2_0_0.2.2.1, p2_0_0.2.2.2.1, ()), [], ()), ())
  else
  some (((p2_0_0.1, p2_0_0.2.1, p2_0_0.2.2.1, p2_0_0.2.2.2.1, ()), l_7_0, ()), ())).map .inr
noncomputable def ref25_takeVecs (r_0 : (List Int) × Int × Int × Int × Unit) (most_1 : Int) : Option ((((List Int) × Int × Int × Int × Unit) × (List (Int × Int × Int × Unit)) × Unit) × (Unit)) :=
  (ref07_Count (r_0.1, r_0.2.1, r_0.2.2.1, r_0.2.2.2.1, ()) most_1).bind fun r_1 =>
  loopR (fun (z : (Int × (List (Int × Int × Int × Unit)) × Int × Unit) × (((List Int) × Int × Int × Int × Unit) × (Unit × Int × Int × Int × Unit) × Unit)) => ref25_takeVecs_s0 z.1.1 z.1.2.1 z.1.2.2.1 z.2.1 z.2.2.1) ((r_1.1.2.1, [], 0, ()), r_1.1.1, ((), 0, 0, 0, ()), ())

/-! ### shunter/shunterref25.take -/
noncomputable def ref25_take_s0 (n_6_0 : Int) (i_7_0 : Int) (p1_0_0 : (List Int) × Int × Int × Int × Unit) (p2_0_0 : Unit × Int × Int × Int × Unit) (p3_0_0 : Int × Int × (Unit × Unit × Int × Int × (Int × Unit × Unit) × Unit) × Int × Unit × Unit) (p5_0_0 : Int × Int × (Unit × Unit × Int × Int × (Int × Unit × Unit) × Unit) × Int × (List Int) × Unit) : Option (((Int × Int × Unit) × (((List Int) × Int × Int × Int × Unit) × (Unit × Int × Int × Int × Unit) × (Int × Int × (Unit × Unit × Int × Int × (Int × Unit × Unit) × Unit) × Int × Unit × Unit) × (Int × Int × (Unit × Unit × Int × Int × (Int × Unit × Unit) × Unit) × Int × (List Int) × Unit) × Unit)) ⊕ ((((List Int) × Int × Int × Int × Unit) × (Int × Int × ((List (Int × Int × Int × Unit)) × (List (Int × Int × Int × Unit)) × Int × Int × (Int × (List (Int × Int × Int × Unit)) × Unit) × Unit) × Int × (List Int) × Unit) × Unit) × (Unit))) :=
  bif (decide (i_7_0 < n_6_0)) then
    (ref07_Take (p1_0_0.1, p1_0_0.2.1, p1_0_0.2.2.1, p1_0_0.2.2.2.1, ()) 1 255).bind fun r_6 =>
    (roomI 8 p5_0_0.2.2.2.2.1 [r_6.1.2.1]).bind fun v_7 =>
    some (.inl ((n_6_0, (IntKind.i64.wrap (i_7_0 + 1)), ()), r_6.1.1, (p2_0_0.1, p2_0_0.2.1, p2_0_0.2.2.1, p2_0_0.2.2.2.1, ()), (p3_0_0.1, p3_0_0.2.1, (p3_0_0.2.2.1.1, p3_0_0.2.2.1.2.1, p3_0_0.2.2.1.2.2.1, p3_0_0.2.2.1.2.2.2.1, (p3_0_0.2.2.1.2.2.2.2.1.1, p3_0_0.2.2.1.2.2.2.2.1.2.1, ()), ()), p3_0_0.2.2.2.1, p3_0_0.2.2.2.2.1, ()), (p5_0_0.1, p5_0_0.2.1, (p5_0_0.2.2.1.1, p5_0_0.2.2.1.2.1, p5_0_0.2.2.1.2.2.1, p5_0_0.2.2.1.2.2.2.1, (p5_0_0.2.2.1.2.2.2.2.1.1, p5_0_0.2.2.1.2.2.2.2.1.2.1, ()), ()), p5_0_0.2.2.2.1, v_7, ()), ()))
  else
  some (.inr (((p1_0_0.1, p1_0_0.2.1, p1_0_0.2.2.1, p1_0_0.2.2.2.1, ()), (p5_0_0.1, p5_0_0.2.1, ([], [], p5_0_0.2.2.1.2.2.1, p5_0_0.2.2.1.2.2.2.1, (p5_0_0.2.2.1.2.2.2.2.1.1, [], ()), ()), p5_0_0.2.2.2.1, p5_0_0.2.2.2.2.1, ()), ()), ()))
noncomputable def ref25_take (r_0 : (List Int) × Int × Int × Int × Unit) : Option ((((List Int) × Int × Int × Int × Unit) × (Int × Int × ((List (Int × Int × Int × Unit)) × (List (Int × Int × Int × Unit)) × Int × Int × (Int × (List (Int × Int × Int × Unit)) × Unit) × Unit) × Int × (List Int) × Unit) × Unit) × (Unit)) :=
  (ref07_Take (r_0.1, r_0.2.1, r_0.2.2.1, r_0.2.2.2.1, ()) 1 4).bind fun r_1 =>
  bif (decide (r_1.1.2.1 = 4)) then
    (ref07_Take r_1.1.1 1 255).bind fun r_3 =>
    (ref07_Count r_3.1.1 64).bind fun r_4 =>
    loopR (fun (z : (Int × Int × Unit) × (((List Int) × Int × Int × Int × Unit) × (Unit × Int × Int × Int × Unit) × (Int × Int × (Unit × Unit × Int × Int × (Int × Unit × Unit) × Unit) × Int × Unit × Unit) × (Int × Int × (Unit × Unit × Int × Int × (Int × Unit × Unit) × Unit) × Int × (List Int) × Unit) × Unit)) => ref25_take_s0 z.1.1 z.1.2.1 z.2.1 z.2.2.1 z.2.2.2.1 z.2.2.2.2.1) ((r_4.1.2.1, 0, ()), r_4.1.1, ((), 0, 0, 0, ()), (0, 0, ((), (), 0, 0, (0, (), ()), ()), 0, (), ()), (r_1.1.2.1, 0, ((), (), 0, 0, (0, (), ()), ()), r_3.1.2.1, [], ()), ())
  else
  (ref07_Take r_1.1.1 1 255).bind fun r_9 =>
  bif (!decide (r_1.1.2.1 = 3)) then
    (ref25_takeVecs r_9.1.1 4).bind fun r_11 =>
    (ref25_takeVecs r_11.1.1 4).bind fun r_12 =>
    (ref07_Take r_12.1.1 2 65535).bind fun r_13 =>
    (ref07_Take r_13.1.1 2 65535).bind fun r_14 =>
    bif (!decide (r_1.1.2.1 = 2)) then
      (ref07_Take r_14.1.1 1 255).bind fun r_16 =>
      (ref25_takeVecs r_16.1.1 8).bind fun r_17 =>
      some ((r_17.1.1, (r_1.1.2.1, r_9.1.2.1, (r_11.1.2.1, r_12.1.2.1, r_13.1.2.1, r_14.1.2.1, (r_16.1.2.1, r_17.1.2.1, ()), ()), 0, [], ()), ()), ())
    else
    some ((r_14.1.1, (r_1.1.2.1, r_9.1.2.1, (r_11.1.2.1, r_12.1.2.1, r_13.1.2.1, r_14.1.2.1, (0, [], ()), ()), 0, [], ()), ()), ())
  else
  bif (!decide (r_1.1.2.1 = 2)) then
    (ref07_Take r_9.1.1 1 255).bind fun r_19 =>
    (ref25_takeVecs r_19.1.1 8).bind fun r_20 =>
    some ((r_20.1.1, (r_1.1.2.1, r_9.1.2.1, ([], [], 0, 0, (r_19.1.2.1, r_20.1.2.1, ()), ()), 0, [], ()), ()), ())
  else
  some ((r_9.1.1, (r_1.1.2.1, r_9.1.2.1, ([], [], 0, 0, (0, [], ()), ()), 0, [], ()), ()), ())

/-! ### shunter/shunterref25.Prefix -/
noncomputable def ref25_Prefix_s0 (n_6_0 : Int) (l_7_0 : List (Int × Int × ((List (Int × Int × Int × Unit)) × (List (Int × Int × Int × Unit)) × Int × Int × (Int × (List (Int × Int × Int × Unit)) × Unit) × Unit) × Int × (List Int) × Unit)) (i_8_0 : Int) (p5_0_0 : (List Int) × Int × Int × Int × Unit) : Option (((Int × (List (Int × Int × ((List (Int × Int × Int × Unit)) × (List (Int × Int × Int × Unit)) × Int × Int × (Int × (List (Int × Int × Int × Unit)) × Unit) × Unit) × Int × (List Int) × Unit)) × Int × Unit) × (((List Int) × Int × Int × Int × Unit) × Unit)) ⊕ (((List (Int × Int × ((List (Int × Int × Int × Unit)) × (List (Int × Int × Int × Unit)) × Int × Int × (Int × (List (Int × Int × Int × Unit)) × Unit) × Unit) × Int × (List Int) × Unit)) × Int × Int × Unit) × (Unit))) :=
  let t20_2 : Bool := decide (i_8_0 < n_6_0)
  guardR t20_2 (some ()) () fun _ =>
  guardR t20_2 (some p5_0_0.2.2.1) 0 fun v_3 =>
  guardR t20_2 (some (decide (v_3 = 0))) false fun v_4 =>
  bif (bif t20_2 then v_4 else false) then
    (ref25_take (p5_0_0.1, p5_0_0.2.1, p5_0_0.2.2.1, p5_0_0.2.2.2.1, ())).bind fun r_6 =>
    bif (decide (r_6.1.1.2.2.1 = 0)) then
      (roomI 144 l_7_0 [r_6.1.2.1]).bind fun v_8 =>
      some (.inl ((n_6_0, v_8, (IntKind.i64.wrap (i_8_0 + 1)), ()), r_6.1.1, ()))
    else
    some (.inl ((n_6_0, l_7_0, (IntKind.i64.wrap (i_8_0 + 1)), ()), r_6.1.1, ()))
  else
  ((ref07_End (p5_0_0.1, p5_0_0.2.1, p5_0_0.2.2.1, p5_0_0.2.2.2.1, ())).bind fun r_11 =>
  some ((l_7_0, r_11.1.1, r_11.1.2.1, ()), ())).map .inr
noncomputable def ref25_Prefix (b_0 : List Int) : Option (((List (Int × Int × ((List (Int × Int × Int × Unit)) × (List (Int × Int × Int × Unit)) × Int × Int × (Int × (List (Int × Int × Int × Unit)) × Unit) × Unit) × Int × (List Int) × Unit)) × Int × Int × Unit) × (Unit)) :=
  (ref07_Take (b_0, 0, 0, 0, ()) 1 64).bind fun r_1 =>
  loopR (fun (z : (Int × (List (Int × Int × ((List (Int × Int × Int × Unit)) × (List (Int × Int × Int × Unit)) × Int × Int × (Int × (List (Int × Int × Int × Unit)) × Unit) × Unit) × Int × (List Int) × Unit)) × Int × Unit) × (((List Int) × Int × Int × Int × Unit) × Unit)) => ref25_Prefix_s0 z.1.1 z.1.2.1 z.1.2.2.1 z.2.1) ((r_1.1.2.1, [], 0, ()), r_1.1.1, ())

/-! ### shunter/shunterref25.Decode -/
noncomputable def ref25_Decode (b_0 : List Int) : Option (((List (Int × Int × ((List (Int × Int × Int × Unit)) × (List (Int × Int × Int × Unit)) × Int × Int × (Int × (List (Int × Int × Int × Unit)) × Unit) × Unit) × Int × (List Int) × Unit)) × Int × Int × Int × Unit) × (Unit)) :=
  (ref25_Prefix b_0).bind fun r_1 =>
  bif (!decide (r_1.1.2.1 = 0)) then
    some (([], (r_1.1.1.length : Int), r_1.1.2.1, r_1.1.2.2.1, ()), ())
  else
  some ((r_1.1.1, (r_1.1.1.length : Int), 0, 0, ()), ())

end Go.L

namespace Go.L
open Go Go.Pv
set_option maxRecDepth 100000

/-! ### loops that count -/
theorem loop_up {σ ρ : Type} {f : σ → Option (σ ⊕ ρ)} (st : Nat → σ) (n : Nat) {r : ρ} (step : ∀ i, i < n → f (st i) = some (.inl (st (i + 1)))) (stop : f (st n) = some (.inr r)) : ∀ k, k ≤ n → loopR f (st k) = some r := by
  intro k hk
  induction h : n - k generalizing k with
  | zero =>
    have : k = n := by omega
    subst this
    exact loopR_out stop
  | succ m ih => exact loopR_on (step k (by omega)) (ih (k + 1) (by omega) (by omega))

/-- as above; the loop may end earlier -/
theorem loop_upto {σ ρ : Type} {f : σ → Option (σ ⊕ ρ)} (st : Nat → σ) (n : Nat) {r : ρ} (step : ∀ i, i < n → f (st i) = some (.inl (st (i + 1))) ∨ f (st i) = some (.inr r)) (stop : f (st n) = some (.inr r)) : ∀ k, k ≤ n → loopR f (st k) = some r := by
  intro k hk
  induction h : n - k generalizing k with
  | zero =>
    have : k = n := by omega
    subst this
    exact loopR_out stop
  | succ m ih =>
    rcases step k (by omega) with h | h
    · exact loopR_on h (ih (k + 1) (by omega) (by omega))
    · exact loopR_out h

theorem ck_nat {β : Type} {i n : Nat} (h : i < n) (k : Int → Option β) : (Option.map (fun _ => (i : Int)) (ckI (i : Int) n)).bind k = k i := by
  unfold ckI
  rw [if_pos ⟨by omega, by omega⟩]
  rfl

theorem wi64 {i : Nat} (h : i < 1000000000) : IntKind.i64.wrap ((i : Int) + 1) = ((i + 1 : Nat) : Int) := by
  rw [wrap_i64 (by omega) (by omega)]; omega

theorem nbeq {i j : Nat} (h : i ≠ j) : Nat.beq i j = false := by
  cases hb : Nat.beq i j with
  | false => rfl
  | true => exact absurd (Nat.eq_of_beq_eq_true hb) h

/-! ### rows -/
def row (f : Nat → Bool) : List Bool := (List.range 128).map f

theorem row_len (f : Nat → Bool) : (row f).length = 128 := by simp [row]

theorem row_get (f : Nat → Bool) {i : Nat} (h : i < 128) : (row f)[i]? = some (f i) := by simp [row, h]

theorem row_ext {f g : Nat → Bool} (h : ∀ i, i < 128 → f i = g i) : row f = row g := by
  unfold row
  exact List.map_congr_left fun i hi => h i (List.mem_range.1 hi)

theorem row_inj {f g : Nat → Bool} (h : row f = row g) {i : Nat} (hi : i < 128) : f i = g i := by
  have := congrArg (·[i]?) h
  simp only [row_get _ hi] at this
  exact Option.some.inj this

theorem row_rd (f : Nat → Bool) {i : Nat} (h : i < 128) : rdI (row f) (i : Int) = some (f i) := by
  unfold rdI
  rw [if_pos (by omega)]
  simpa using row_get f h

theorem row_st (f : Nat → Bool) {i : Nat} (h : i < 128) (v : Bool) : stI (row f) (i : Int) v = some (row fun j => bif Nat.beq j i then v else f j) := by
  unfold stI
  rw [if_pos ⟨by omega, by rw [row_len]; simpa using h⟩]
  congr 1
  apply List.ext_getElem?
  intro j
  rw [List.getElem?_set, Int.toNat_natCast]
  by_cases hj : j < 128
  · rw [row_get _ hj]
    by_cases e : i = j
    · subst e
      rw [if_pos rfl, if_pos (by rw [row_len]; exact hj), row_get _ hj, Nat.beq_refl]
      rfl
    · rw [if_neg e, row_get _ hj, nbeq (fun h => e h.symm)]
      rfl
  · have h1 : ∀ g : Nat → Bool, (row g)[j]? = none := fun g => List.getElem?_eq_none (by rw [row_len]; omega)
    rw [h1, h1, if_neg (by omega)]

theorem row_zero : List.replicate 128 false = row fun _ => false := by decide

/-- a number's bits -/
def rowB (x : BitVec 128) : List Bool := row x.getLsbD

theorem rowB_inj {x y : BitVec 128} (h : rowB x = rowB y) : x = y := BitVec.eq_of_getLsbD_eq fun i hi => row_inj h hi

theorem rowB_eq {x y : BitVec 128} : decide (rowB x = rowB y) = decide (x = y) := by
  by_cases h : x = y
  · subst h; simp
  · rw [decide_eq_false h, decide_eq_false fun e => h (rowB_inj e)]

theorem eqLs_bool : ∀ (a b : List Bool), eqLs (fun x y => decide (x = y)) a b = decide (a = b)
  | [], [] => by simp [eqLs]
  | [], _ :: _ => by simp [eqLs]
  | _ :: _, [] => by simp [eqLs]
  | x :: a, y :: b => by
    simp only [eqLs, eqLs_bool a b, List.cons.injEq, Bool.decide_and]

theorem row_of_rowB {f : Nat → Bool} {x : BitVec 128} (h : ∀ i, i < 128 → f i = x.getLsbD i) : row f = rowB x := row_ext h

/-- a row that is made bit by bit, from the lowest on -/
def bld (f : Nat → Bool) (i : Nat) : List Bool := row fun j => decide (j < i) && f j

theorem bld_st (f : Nat → Bool) {i : Nat} (hi : i < 128) {v : Bool} (hv : v = f i) : stI (bld f i) (i : Int) v = some (bld f (i + 1)) := by
  unfold bld
  rw [row_st _ hi]
  congr 1
  refine row_ext fun j hj => ?_
  by_cases e : j = i
  · subst e; simp [hv]
  · rw [nbeq e]
    simp only [cond_false]
    congr 1
    by_cases h : j < i
    · simp [h]; omega
    · simp [h]; omega

theorem bld_zero (f : Nat → Bool) : bld f 0 = List.replicate 128 false := by rw [row_zero]; exact row_ext fun i _ => by simp
theorem bld_full (f : Nat → Bool) : bld f 128 = row f := row_ext fun i hi => by simp [hi]

theorem bld_skip (f : Nat → Bool) {i : Nat} (hv : f i = false) : bld f (i + 1) = bld f i := by
  refine row_ext fun j _ => ?_
  by_cases e : j = i
  · subst e; simp [hv]
  · by_cases h : j < i
    · simp [h]; omega
    · simp [h]; omega

theorem gsome {α β : Type} (b : Bool) (v d : β) (k : β → Option α) : guardR b (some v) d k = k (bif b then v else d) := rfl
theorem gtrue {α β : Type} (x : Option β) (d : β) (k : β → Option α) : guardR true x d k = x.bind k := by cases x <;> rfl
theorem gfalse {α β : Type} (x : Option β) (d : β) (k : β → Option α) : guardR false x d k = k d := by cases x <;> rfl

theorem dlt {i n : Nat} (h : i < n) : decide ((i : Int) < (n : Int)) = true := decide_eq_true (by omega)
theorem dge (n : Nat) : decide ((n : Int) < (n : Int)) = false := decide_eq_false (by omega)

/-! ### sums -/
theorem ref01_Sum_ok (x y : BitVec 128) (c : Bool) : ref01_Sum (rowB x) (rowB y) c = some ((rowB (x + y + BitVec.setWidth 128 (BitVec.ofBool c)), BitVec.carry 128 x y c, ()), ()) := by
  unfold ref01_Sum
  let r := bld (x + y + BitVec.setWidth 128 (BitVec.ofBool c)).getLsbD
  have key := loop_up (f := fun (z : (Bool × Int × Unit) × ((List Bool) × (List Bool) × (List Bool) × (List Bool) × Unit)) => ref01_Sum_s0 z.1.1 z.1.2.1 z.2.1 z.2.2.1 z.2.2.2.1 z.2.2.2.2.1)
    (fun i => ((BitVec.carry i x y c, (i : Int), ()), rowB x, rowB y, List.replicate 128 false, r i, ())) 128 (r := ((rowB (x + y + BitVec.setWidth 128 (BitVec.ofBool c)), BitVec.carry 128 x y c, ()), ())) ?_ ?_ 0 (by omega)
  · have hc : BitVec.carry 0 x y c = c := BitVec.carry_zero
    simp only [r, bld_zero, hc] at key
    exact key
  · intro i hi
    have hb := BitVec.getLsbD_add_add_bool hi x y c
    have hs := BitVec.carry_succ i x y c
    simp only
    unfold ref01_Sum_s0
    rw [show decide ((i : Int) < 128) = true from decide_eq_true (by omega), cond_true]
    simp only [ck_nat hi, rowB, row_rd _ hi, Option.bind_some, wi64 (show i < 1000000000 by omega)]
    rw [hs]
    cases hx : x.getLsbD i <;> cases hy : y.getLsbD i <;> cases hcc : BitVec.carry i x y c <;> simp only [cond_true, cond_false] <;>
      (rw [bld_st _ hi (by rw [hb, hx, hy, hcc]; decide)]; simp only [Option.bind_some]; rfl)
  · simp only
    unfold ref01_Sum_s0
    rw [show decide (((128 : Nat) : Int) < 128) = false from decide_eq_false (by omega), cond_false]
    simp only [r, bld_full]
    rfl

theorem ref01_Turned_ok (x : BitVec 128) : ref01_Turned (rowB x) = some ((rowB (~~~x), ()), ()) := by
  unfold ref01_Turned
  have key := loop_up (f := fun (z : (Int × Unit) × ((List Bool) × (List Bool) × (List Bool) × Unit)) => ref01_Turned_s0 z.1.1 z.2.1 z.2.2.1 z.2.2.2.1)
    (fun i => (((i : Int), ()), rowB x, List.replicate 128 false, bld (~~~x).getLsbD i, ())) 128 (r := ((rowB (~~~x), ()), ())) ?_ ?_ 0 (by omega)
  · simp only [bld_zero] at key
    exact key
  · intro i hi
    simp only
    unfold ref01_Turned_s0
    rw [show decide ((i : Int) < 128) = true from decide_eq_true (by omega), cond_true]
    simp only [ck_nat hi, rowB, row_rd _ hi, Option.bind_some, wi64 (show i < 1000000000 by omega)]
    rw [bld_st _ hi (by simp [hi])]
    rfl
  · simp only
    unfold ref01_Turned_s0
    rw [show decide (((128 : Nat) : Int) < 128) = false from decide_eq_false (by omega), cond_false, bld_full]
    rfl

/-! ### which is below -/
theorem nat_lt_bit {n m i : Nat} (hn : n.testBit i = false) (hm : m.testBit i = true) (h : ∀ j, i < j → n.testBit j = m.testBit j) : n < m := by
  have h1 : n / 2 ^ (i + 1) = m / 2 ^ (i + 1) := by
    apply Nat.eq_of_testBit_eq
    intro j
    rw [Nat.testBit_div_two_pow, Nat.testBit_div_two_pow]
    exact h _ (by omega)
  rw [Nat.testBit_eq_decide_div_mod_eq] at hn hm
  have hn := of_decide_eq_false hn
  have hm := of_decide_eq_true hm
  rw [Nat.pow_succ, ← Nat.div_div_eq_div_mul, ← Nat.div_div_eq_div_mul] at h1
  have : n / 2 ^ i < m / 2 ^ i := by omega
  rcases Nat.lt_or_ge n m with h | h
  · exact h
  · have := Nat.div_le_div_right (c := 2 ^ i) h
    omega

theorem lt_bit {x y : BitVec 128} {i : Nat} (hi : i < 128) (hab : ∀ j, i < j → j < 128 → x.getLsbD j = y.getLsbD j) (h : x.getLsbD i ≠ y.getLsbD i) : decide (x.toNat < y.toNat) = y.getLsbD i := by
  have hj : ∀ j, i < j → x.toNat.testBit j = y.toNat.testBit j := fun j hj => by
    by_cases h : j < 128
    · exact hab j hj h
    · rw [Nat.testBit_lt_two_pow (Nat.lt_of_lt_of_le x.isLt (Nat.pow_le_pow_right (by omega) (by omega))), Nat.testBit_lt_two_pow (Nat.lt_of_lt_of_le y.isLt (Nat.pow_le_pow_right (by omega) (by omega)))]
  cases hy : y.getLsbD i with
  | true =>
    have hx : x.getLsbD i = false := by cases hx : x.getLsbD i <;> simp_all
    exact decide_eq_true (nat_lt_bit (i := i) hx hy hj)
  | false =>
    have hx : x.getLsbD i = true := by cases hx : x.getLsbD i <;> simp_all
    have := nat_lt_bit (n := y.toNat) (m := x.toNat) (i := i) hy hx fun j h => (hj j h).symm
    exact decide_eq_false (by omega)

theorem wi64d {i : Nat} (h : i < 1000000000) : IntKind.i64.wrap ((i : Int) - 1) = (i : Int) - 1 := wrap_i64 (by omega) (by omega)

/-- a loop that counts down from n - 1 -/
theorem loop_down {σ ρ : Type} {f : σ → Option (σ ⊕ ρ)} (st : Nat → σ) (I : Nat → Prop) {r : ρ} (step : ∀ i, I (i + 1) → (f (st (i + 1)) = some (.inl (st i)) ∧ I i) ∨ f (st (i + 1)) = some (.inr r)) (stop : I 0 → f (st 0) = some (.inr r)) : ∀ n, I n → loopR f (st n) = some r
  | 0, h => loopR_out (stop h)
  | n + 1, h => by
    rcases step n h with ⟨h1, h2⟩ | h1
    · exact loopR_on h1 (loop_down st I step stop n h2)
    · exact loopR_out h1

theorem dpos (i : Nat) : decide ((((i + 1 : Nat) : Int) - 1) ≥ 0) = true := decide_eq_true (by omega)
theorem dneg : decide ((((0 : Nat) : Int) - 1) ≥ 0) = false := decide_eq_false (by omega)
theorem pm (i : Nat) : (((i + 1 : Nat) : Int) - 1) = (i : Int) := by omega

theorem ref01_Less_ok (x y : BitVec 128) : ref01_Less (rowB x) (rowB y) = some ((decide (x.toNat < y.toNat), ()), ()) := by
  unfold ref01_Less
  have key := loop_down (f := fun (z : (Int × Unit) × ((List Bool) × (List Bool) × Unit)) => ref01_Less_s0 z.1.1 z.2.1 z.2.2.1)
    (fun i => ((((i : Nat) : Int) - 1, ()), rowB x, rowB y, ())) (fun i => i ≤ 128 ∧ ∀ j, i ≤ j → j < 128 → x.getLsbD j = y.getLsbD j) (r := ((decide (x.toNat < y.toNat), ()), ())) ?_ ?_ 128 ⟨by omega, fun j h1 h2 => by omega⟩
  · exact key
  · intro i ⟨hi, hI⟩
    have hi' : i < 128 := by omega
    simp only
    unfold ref01_Less_s0
    rw [dpos, cond_true, pm]
    simp only [ck_nat hi', rowB, row_rd _ hi', Option.bind_some]
    by_cases he : x.getLsbD i = y.getLsbD i
    · left
      rw [decide_eq_true he, Bool.not_true, cond_false, wi64d (by omega)]
      refine ⟨rfl, by omega, fun j h1 h2 => ?_⟩
      by_cases e : j = i
      · rw [e]; exact he
      · exact hI j (by omega) h2
    · right
      rw [decide_eq_false he, Bool.not_false, cond_true, lt_bit hi' (fun j h1 h2 => hI j (by omega) h2) he]
  · intro ⟨_, hI⟩
    have : x = y := BitVec.eq_of_getLsbD_eq fun i hi => hI i (by omega) hi
    subst this
    simp only
    unfold ref01_Less_s0
    rw [dneg, cond_false, decide_eq_false (Nat.lt_irrefl _)]

theorem ref01_Minus_ok (x y : BitVec 128) : ref01_Minus (rowB x) (rowB y) = some ((rowB (x - y), decide (x.toNat < y.toNat), ()), ()) := by
  unfold ref01_Minus
  rw [ref01_Turned_ok, Option.bind_some, ref01_Sum_ok, Option.bind_some, ref01_Less_ok, Option.bind_some]
  have : x + ~~~y + BitVec.setWidth 128 (BitVec.ofBool true) = x - y := by
    rw [BitVec.sub_eq_add_neg, BitVec.neg_eq_not_add, BitVec.add_assoc]
    rfl
  rw [this]

/-! ### moved -/
theorem ref01_Moved_ok (x : BitVec 128) (n : Int) : ref01_Moved (rowB x) n = some ((rowB (if 0 ≤ n ∧ n < 128 then x <<< n.toNat else if -128 < n ∧ n < 0 then x >>> (-n).toNat else 0), ()), ()) := by
  unfold ref01_Moved
  let g : BitVec 128 := if 0 ≤ n ∧ n < 128 then x <<< n.toNat else if -128 < n ∧ n < 0 then x >>> (-n).toNat else 0
  have hg : ∀ i, i < 128 → g.getLsbD i = if -128 < n ∧ n < 128 ∧ 0 ≤ (i : Int) - n ∧ (i : Int) - n < 128 then x.getLsbD ((i : Int) - n).toNat else false := by
    intro i hi
    simp only [g]
    by_cases h1 : 0 ≤ n ∧ n < 128
    · rw [if_pos h1, BitVec.getLsbD_shiftLeft]
      by_cases h2 : 0 ≤ (i : Int) - n
      · rw [if_pos ⟨by omega, by omega, h2, by omega⟩, show ((i : Int) - n).toNat = i - n.toNat by omega]
        simp [hi]; omega
      · rw [if_neg (by omega)]
        simp; omega
    · rw [if_neg h1]
      by_cases h2 : -128 < n ∧ n < 0
      · rw [if_pos h2, BitVec.getLsbD_ushiftRight]
        by_cases h3 : (i : Int) - n < 128
        · rw [if_pos ⟨by omega, by omega, by omega, h3⟩, show ((i : Int) - n).toNat = (-n).toNat + i by omega]
        · rw [if_neg (by omega)]
          exact BitVec.getLsbD_of_ge _ _ (by omega)
      · rw [if_neg h2, if_neg (by omega)]
        simp
  have key := loop_up (f := fun (z : (Int × Int × Unit) × ((List Bool) × (List Bool) × (List Bool) × Unit)) => ref01_Moved_s0 z.1.1 z.1.2.1 z.2.1 z.2.2.1 z.2.2.2.1)
    (fun i => ((n, (i : Int), ()), rowB x, List.replicate 128 false, bld g.getLsbD i, ())) 128 (r := ((rowB g, ()), ())) ?_ ?_ 0 (by omega)
  · simp only [bld_zero] at key
    exact key
  · intro i hi
    have hgi := hg i hi
    simp only
    unfold ref01_Moved_s0
    rw [show decide ((i : Int) < 128) = true from decide_eq_true (by omega), cond_true]
    by_cases hn : -128 < n ∧ n < 128
    · have hw : IntKind.i64.wrap ((i : Int) - n) = (i : Int) - n := wrap_i64 (by omega) (by omega)
      simp only [gsome, decide_eq_true (show n > -128 from hn.1), decide_eq_true hn.2, cond_true, hw]
      by_cases h1 : (i : Int) - n ≥ 0
      · by_cases h2 : (i : Int) - n < 128
        · simp only [decide_eq_true h1, decide_eq_true h2, cond_true]
          rw [if_pos ⟨hn.1, hn.2, h1, h2⟩] at hgi
          obtain ⟨m, hm⟩ : ∃ m : Nat, (i : Int) - n = m := ⟨_, (Int.toNat_of_nonneg h1).symm⟩
          rw [hm] at hgi ⊢
          rw [ck_nat (show m < 128 by omega)]
          simp only [rowB]
          rw [row_rd _ (by omega), Option.bind_some, ck_nat hi, bld_st _ hi (by rw [hgi]; rfl), Option.bind_some, wi64 (by omega)]
        · simp only [decide_eq_true h1, decide_eq_false h2, cond_true, cond_false]
          rw [bld_skip _ (by rw [hgi, if_neg (by omega)]), wi64 (by omega)]
      · simp only [decide_eq_false h1, cond_true, cond_false]
        rw [bld_skip _ (by rw [hgi, if_neg (by omega)]), wi64 (by omega)]
    · rw [bld_skip _ (by rw [hgi, if_neg (by omega)])]
      by_cases h1 : n > -128
      · simp only [gsome, decide_eq_true h1, decide_eq_false (show ¬ n < 128 by omega), cond_true, cond_false]
        rw [wi64 (by omega)]
      · simp only [gsome, decide_eq_false h1, cond_false]
        rw [wi64 (by omega)]
  · simp only
    unfold ref01_Moved_s0
    rw [show decide (((128 : Nat) : Int) < 128) = false from decide_eq_false (by omega), cond_false, bld_full]
    rfl

theorem moved_up (x : BitVec 128) {n : Nat} (h : n < 128) : ref01_Moved (rowB x) (n : Int) = some ((rowB (x <<< n), ()), ()) := by
  rw [ref01_Moved_ok, if_pos ⟨by omega, by omega⟩]; rfl

/-! ### products -/
theorem setW0 : BitVec.setWidth 128 (BitVec.ofBool false) = 0 := by decide

theorem sum0 (x y : BitVec 128) : ref01_Sum (rowB x) (rowB y) false = some ((rowB (x + y), BitVec.carry 128 x y false, ()), ()) := by
  rw [ref01_Sum_ok, setW0, show x + y + 0 = x + y by simp]

theorem ref01_Product_ok (x y : BitVec 128) : ref01_Product (rowB x) (rowB y) = some ((rowB (x * y), ()), ()) := by
  unfold ref01_Product
  let r : Nat → BitVec 128 := fun i => x * BitVec.ofNat 128 (y.toNat % 2 ^ i)
  have hr : ∀ i, i < 128 → r (i + 1) = r i + (if y.getLsbD i then x <<< i else 0) := by
    intro i hi
    simp only [r]
    have h1 : y.toNat % 2 ^ (i + 1) = y.toNat % 2 ^ i + (if y.getLsbD i then 2 ^ i else 0) := by
      rw [Nat.mod_pow_succ]
      congr 1
      rw [BitVec.getLsbD, Nat.testBit_eq_decide_div_mod_eq]
      have : y.toNat / 2 ^ i % 2 = 0 ∨ y.toNat / 2 ^ i % 2 = 1 := by omega
      rcases this with h | h <;> simp [h]
    rw [h1]
    cases y.getLsbD i with
    | true =>
      simp only [if_true]
      rw [BitVec.ofNat_add, BitVec.mul_add, BitVec.shiftLeft_eq_mul_twoPow]
      congr 2
      apply BitVec.eq_of_toNat_eq
      simp [BitVec.toNat_twoPow]
    | false => simp
  have key := loop_up (f := fun (z : (Int × Unit) × ((List Bool) × (List Bool) × (List Bool) × (List Bool) × Unit)) => ref01_Product_s0 z.1.1 z.2.1 z.2.2.1 z.2.2.2.1 z.2.2.2.2.1)
    (fun i => (((i : Int), ()), rowB x, rowB y, List.replicate 128 false, rowB (r i), ())) 128 (r := ((rowB (x * y), ()), ())) ?_ ?_ 0 (by omega)
  · have h0 : rowB (r 0) = List.replicate 128 false := by
      have : r 0 = 0 := by simp [r, Nat.mod_one]
      rw [this, row_zero]
      exact row_ext fun i _ => by simp
    simp only [h0] at key
    exact key
  · intro i hi
    simp only
    unfold ref01_Product_s0
    rw [show decide ((i : Int) < 128) = true from decide_eq_true (by omega), cond_true, ck_nat hi]
    rw [show rdI (rowB y) (i : Int) = some (y.getLsbD i) from row_rd _ hi, Option.bind_some, hr i hi, wi64 (by omega)]
    cases y.getLsbD i with
    | true =>
      simp only [cond_true, if_true]
      rw [moved_up x hi, Option.bind_some, sum0, Option.bind_some]
    | false => simp
  · simp only
    unfold ref01_Product_s0
    rw [show decide (((128 : Nat) : Int) < 128) = false from decide_eq_false (by omega), cond_false]
    have : r 128 = x * y := by simp only [r]; rw [Nat.mod_eq_of_lt y.isLt]; simp
    rw [this]

/-! ### how many bits -/
def bitLen (n : Nat) : Nat := if n = 0 then 0 else Nat.log2 n + 1

theorem ref01_Len_ok (x : BitVec 128) : ref01_Len (rowB x) = some (((bitLen x.toNat : Int), ()), ()) := by
  unfold ref01_Len
  have key := loop_down (f := fun (z : (Int × Unit) × ((List Bool) × Unit)) => ref01_Len_s0 z.1.1 z.2.1)
    (fun i => ((((i : Nat) : Int) - 1, ()), rowB x, ())) (fun i => i ≤ 128 ∧ x.toNat < 2 ^ i) (r := (((bitLen x.toNat : Int), ()), ())) ?_ ?_ 128 ⟨by omega, x.isLt⟩
  · exact key
  · intro i ⟨hi, hI⟩
    have hi' : i < 128 := by omega
    simp only
    unfold ref01_Len_s0
    rw [dpos, cond_true, pm, ck_nat hi', show rdI (rowB x) (i : Int) = some (x.getLsbD i) from row_rd _ hi', Option.bind_some]
    cases hb : x.getLsbD i with
    | true =>
      right
      rw [cond_true, wi64 (by omega)]
      have h2 : 2 ^ i ≤ x.toNat := Nat.ge_two_pow_of_testBit hb
      have h0 : x.toNat ≠ 0 := by have := Nat.two_pow_pos i; omega
      have : bitLen x.toNat = i + 1 := by
        unfold bitLen
        rw [if_neg h0]
        have := (Nat.log2_eq_iff h0).2 ⟨h2, hI⟩
        omega
      rw [this]
    | false =>
      left
      rw [cond_false, wi64d (by omega)]
      refine ⟨rfl, by omega, ?_⟩
      have h1 : x.toNat.testBit i = false := hb
      rw [Nat.testBit_eq_decide_div_mod_eq] at h1
      have h1 := of_decide_eq_false h1
      rw [Nat.pow_succ] at hI
      have h2 : x.toNat / 2 ^ i < 2 := Nat.div_lt_of_lt_mul (by omega)
      have h3 : x.toNat / 2 ^ i = 0 := by
        generalize x.toNat / 2 ^ i = e at h1 h2
        omega
      exact (Nat.div_eq_zero_iff_lt (Nat.two_pow_pos i)).1 h3
  · intro ⟨_, hI⟩
    simp only
    unfold ref01_Len_s0
    have : x.toNat = 0 := by simpa using hI
    rw [dneg, cond_false, this]
    rfl

/-! ### rows of halves, halves of rows -/
theorem wu64 {n : Nat} (h : n < 18446744073709551616) : IntKind.u64.wrap (n : Int) = n := wrap_u64 (by omega) (by omega)

/-- the word of two halves -/
def wd (hi lo : Nat) : BitVec 128 := BitVec.ofNat 128 (hi * 2 ^ 64 + lo)

theorem wd_toNat {hi lo : Nat} (h1 : hi < 2 ^ 64) (h2 : lo < 2 ^ 64) : (wd hi lo).toNat = hi * 2 ^ 64 + lo := by
  simp only [wd, BitVec.toNat_ofNat]
  omega

theorem wd_bit {hi lo : Nat} (h2 : lo < 2 ^ 64) {i : Nat} (hi' : i < 128) : (wd hi lo).getLsbD i = if i < 64 then lo.testBit i else hi.testBit (i - 64) := by
  simp only [wd, BitVec.getLsbD_ofNat, hi', decide_true, Bool.true_and]
  rw [Nat.mul_comm, Nat.testBit_two_pow_mul_add _ h2]

theorem tmod2 (n i : Nat) : decide ((((n / 2 ^ i : Nat) : Int).tmod 2) = 1) = n.testBit i := by
  rw [Nat.testBit_eq_decide_div_mod_eq]
  generalize n / 2 ^ i = e
  have : (e : Int).tmod 2 = ((e % 2 : Nat) : Int) := by
    rw [Int.tmod_eq_emod_of_nonneg (by omega)]; rfl
  rw [this]
  by_cases h : e % 2 = 1
  · rw [decide_eq_true h, decide_eq_true (by omega)]
  · rw [decide_eq_false h, decide_eq_false (by omega)]

theorem tdiv2 {n : Nat} (h : n < 18446744073709551616) (i : Nat) : IntKind.u64.wrap (((n / 2 ^ i : Nat) : Int).tdiv 2) = ((n / 2 ^ (i + 1) : Nat) : Int) := by
  rw [Nat.pow_succ, ← Nat.div_div_eq_div_mul]
  have : n / 2 ^ i ≤ n := Nat.div_le_self _ _
  generalize n / 2 ^ i = e at *
  rw [Int.tdiv_eq_ediv_of_nonneg (by omega)]
  have h2 : ((e : Int) / 2) = ((e / 2 : Nat) : Int) := by omega
  rw [h2, wu64 (by omega)]

theorem ref01_Of_ok {hi lo : Nat} (h1 : hi < 18446744073709551616) (h2 : lo < 18446744073709551616) : ref01_Of (hi : Int) (lo : Int) = some ((rowB (wd hi lo), ()), ()) := by
  unfold ref01_Of
  let g : Nat → List Bool := fun i => row fun j => if j < 64 then decide (j < i) && lo.testBit j else decide (j - 64 < i) && hi.testBit (j - 64)
  have key := loop_up (f := fun (z : (Int × Int × Int × Unit) × ((List Bool) × (List Bool) × Unit)) => ref01_Of_s0 z.1.1 z.1.2.1 z.1.2.2.1 z.2.1 z.2.2.1)
    (fun i => ((((hi / 2 ^ i : Nat) : Int), ((lo / 2 ^ i : Nat) : Int), (i : Int), ()), List.replicate 128 false, g i, ())) 64 (r := ((rowB (wd hi lo), ()), ())) ?_ ?_ 0 (by omega)
  · have h0 : g 0 = List.replicate 128 false := by rw [row_zero]; exact row_ext fun i _ => by simp
    simp only [h0, Nat.pow_zero, Nat.div_one] at key
    exact key
  · intro i hi'
    simp only
    unfold ref01_Of_s0
    rw [show decide ((i : Int) < 64) = true from decide_eq_true (by omega), cond_true, ck_nat (show i < 128 by omega)]
    have hw : IntKind.i64.wrap ((i : Int) + 64) = ((i + 64 : Nat) : Int) := by rw [wrap_i64 (by omega) (by omega)]; omega
    simp only [g]
    rw [row_st _ (show i < 128 by omega), Option.bind_some]
    simp only [hw]
    rw [ck_nat (show i + 64 < 128 by omega), row_st _ (show i + 64 < 128 by omega), Option.bind_some, tdiv2 h1, tdiv2 h2, tmod2, tmod2, wi64 (by omega)]
    congr 5
    refine row_ext fun j hj => ?_
    by_cases e : j = i + 64
    · subst e; simp
    · rw [nbeq e]
      by_cases e2 : j = i
      · subst e2; simp; omega
      · rw [nbeq e2]
        simp only [cond_false]
        by_cases h64 : j < 64
        · simp only [h64, if_true]
          congr 1
          by_cases hji : j < i
          · simp [hji]; omega
          · simp [hji]; omega
        · simp only [h64, if_false]
          congr 1
          by_cases hji : j - 64 < i
          · simp [hji]; omega
          · simp [hji]; omega
  · simp only
    unfold ref01_Of_s0
    rw [show decide (((64 : Nat) : Int) < 64) = false from decide_eq_false (by omega), cond_false]
    congr 4
    refine row_ext fun j hj => ?_
    rw [wd_bit h2 hj]
    by_cases h : j < 64
    · simp [h]
    · simp [h]; omega

theorem ref01_small_ok {n : Nat} (h : n < 1000000000) : ref01_small (n : Int) = some ((rowB (BitVec.ofNat 128 n), ()), ()) := by
  unfold ref01_small
  rw [wu64 (by omega), show (0 : Int) = ((0 : Nat) : Int) from rfl, ref01_Of_ok (by omega) (by omega), Option.bind_some]
  simp [wd]

theorem ref01_Halves_ok {hi lo : Nat} (h1 : hi < 18446744073709551616) (h2 : lo < 18446744073709551616) : ref01_Halves (rowB (wd hi lo)) = some (((hi : Int), (lo : Int), ()), ()) := by
  unfold ref01_Halves
  have hs : ∀ n i : Nat, n / 2 ^ i = 2 * (n / 2 ^ (i + 1)) + (if n.testBit i then 1 else 0) := by
    intro n i
    rw [Nat.testBit_eq_decide_div_mod_eq, Nat.pow_succ, ← Nat.div_div_eq_div_mul]
    have : n / 2 ^ i % 2 = 0 ∨ n / 2 ^ i % 2 = 1 := by omega
    rcases this with h | h <;> simp [h] <;> omega
  have hle : ∀ n i : Nat, n / 2 ^ i ≤ n := fun n i => Nat.div_le_self _ _
  have key := loop_down (f := fun (z : (Int × Int × Int × Unit) × ((List Bool) × Unit)) => ref01_Halves_s0 z.1.1 z.1.2.1 z.1.2.2.1 z.2.1)
    (fun i => ((((hi / 2 ^ i : Nat) : Int), ((lo / 2 ^ i : Nat) : Int), ((i : Nat) : Int) - 1, ()), rowB (wd hi lo), ())) (fun i => i ≤ 64) (r := (((hi : Int), (lo : Int), ()), ())) ?_ ?_ 64 (by omega)
  · have e1 : hi / 2 ^ 64 = 0 := Nat.div_eq_of_lt (by omega)
    have e2 : lo / 2 ^ 64 = 0 := Nat.div_eq_of_lt (by omega)
    simp only [e1, e2] at key
    exact key
  · intro i hi'
    left
    refine ⟨?_, by omega⟩
    simp only
    unfold ref01_Halves_s0
    rw [dpos, cond_true, pm]
    have hw : IntKind.i64.wrap ((i : Int) + 64) = ((i + 64 : Nat) : Int) := by rw [wrap_i64 (by omega) (by omega)]; omega
    have hb1 : rdI (rowB (wd hi lo)) ((i + 64 : Nat) : Int) = some (hi.testBit i) := by
      rw [show rdI (rowB (wd hi lo)) ((i + 64 : Nat) : Int) = some ((wd hi lo).getLsbD (i + 64)) from row_rd _ (by omega), wd_bit h2 (by omega), if_neg (by omega), Nat.add_sub_cancel]
    have hb2 : rdI (rowB (wd hi lo)) (i : Int) = some (lo.testBit i) := by
      rw [show rdI (rowB (wd hi lo)) (i : Int) = some ((wd hi lo).getLsbD i) from row_rd _ (by omega), wd_bit h2 (by omega), if_pos (by omega)]
    have q1 := hs hi i
    have q2 := hs lo i
    have l1 := hle hi i
    have l2 := hle lo i
    have m1 : IntKind.u64.wrap (2 * ((hi / 2 ^ (i + 1) : Nat) : Int)) = ((2 * (hi / 2 ^ (i + 1)) : Nat) : Int) := by
      rw [show (2 * ((hi / 2 ^ (i + 1) : Nat) : Int)) = ((2 * (hi / 2 ^ (i + 1)) : Nat) : Int) by omega, wu64 (by omega)]
    have m2 : IntKind.u64.wrap (2 * ((lo / 2 ^ (i + 1) : Nat) : Int)) = ((2 * (lo / 2 ^ (i + 1)) : Nat) : Int) := by
      rw [show (2 * ((lo / 2 ^ (i + 1) : Nat) : Int)) = ((2 * (lo / 2 ^ (i + 1)) : Nat) : Int) by omega, wu64 (by omega)]
    simp only [hw, m1, m2]
    simp only [ck_nat (show i + 64 < 128 by omega), ck_nat (show i < 128 by omega), hb1, hb2, wi64d (show i < 1000000000 by omega), Option.bind_some]
    generalize hi / 2 ^ i = a at *
    generalize lo / 2 ^ i = b at *
    generalize hi / 2 ^ (i + 1) = c at *
    generalize lo / 2 ^ (i + 1) = d at *
    clear hb1 hb2 hs hle
    generalize hi.testBit i = p at *
    generalize lo.testBit i = q at *
    cases p <;> cases q <;> simp only [cond_true, cond_false, if_true, if_false, Bool.false_eq_true, Nat.add_zero] at q1 q2 ⊢
    · rw [q1, q2]
    · rw [show ((2 * d : Nat) : Int) + 1 = ((b : Nat) : Int) by omega, wu64 (by omega), q1]
    · rw [show ((2 * c : Nat) : Int) + 1 = ((a : Nat) : Int) by omega, wu64 (by omega), q2]
    · rw [show ((2 * c : Nat) : Int) + 1 = ((a : Nat) : Int) by omega, wu64 (by omega), show ((2 * d : Nat) : Int) + 1 = ((b : Nat) : Int) by omega, wu64 (by omega)]
  · intro _
    simp only
    unfold ref01_Halves_s0
    rw [dneg, cond_false]
    simp

end Go.L

namespace Go.L
open Go Go.Pv
set_option maxRecDepth 100000

/-! ### long division -/
theorem part_step {A d b : Nat} (hd : 0 < d) (hb : b ≤ 1) : (2 * A + b) / d = 2 * (A / d) + (if 2 * (A % d) + b < d then 0 else 1) ∧ (2 * A + b) % d = if 2 * (A % d) + b < d then 2 * (A % d) + b else 2 * (A % d) + b - d := by
  have h1 := Nat.div_add_mod A d
  have h2 := Nat.mod_lt A hd
  generalize A / d = Q at *
  generalize A % d = L at *
  by_cases h : 2 * L + b < d
  · rw [if_pos h, if_pos h]
    have := (Nat.div_mod_unique (a := 2 * A + b) (c := 2 * L + b) (d := 2 * Q) hd).2 ⟨by rw [← h1, Nat.mul_left_comm]; omega, h⟩
    exact this
  · rw [if_neg h, if_neg h]
    have := (Nat.div_mod_unique (a := 2 * A + b) (c := 2 * L + b - d) (d := 2 * Q + 1) hd).2 ⟨by rw [← h1, Nat.mul_add d (2 * Q) 1, Nat.mul_one, Nat.mul_left_comm]; omega, by omega⟩
    exact this

theorem bit_cons (L b j : Nat) (hb : b ≤ 1) : (2 * L + b).testBit j = if j = 0 then decide (b = 1) else L.testBit (j - 1) := by
  have := Nat.testBit_two_pow_mul_add L (i := 1) (b := b) (by omega) j
  rw [show 2 ^ 1 * L + b = 2 * L + b by omega] at this
  rw [this]
  by_cases h : j = 0
  · subst h
    have : b = 0 ∨ b = 1 := by omega
    rcases this with rfl | rfl <;> simp
  · rw [if_neg (by omega), if_neg h]

theorem bit_set (m i j : Nat) : (m * 2 ^ (i + 1) + 2 ^ i).testBit j = if j = i then true else (m * 2 ^ (i + 1)).testBit j := by
  have h1 := Nat.testBit_two_pow_mul_add m (i := i + 1) (b := 2 ^ i) (Nat.pow_lt_pow_right (by omega) (by omega)) j
  rw [Nat.mul_comm] at h1
  rw [h1, Nat.mul_comm m, Nat.testBit_two_pow_mul]
  by_cases e : j = i
  · subst e
    rw [if_pos (by omega), if_pos rfl, Nat.testBit_two_pow]
    simp
  · rw [if_neg e]
    by_cases h : j < i + 1
    · rw [if_pos h, Nat.testBit_two_pow, decide_eq_false (show ¬ i = j by omega), decide_eq_false (show ¬ j ≥ i + 1 by omega)]
      rfl
    · rw [if_neg h, decide_eq_true (show j ≥ i + 1 by omega)]
      rfl

theorem ref01_Part_ok (a d : BitVec 128) (hd : 0 < d.toNat) : ref01_Part (rowB a) (rowB d) = some ((rowB (BitVec.ofNat 128 (a.toNat / d.toNat)), rowB (BitVec.ofNat 128 (a.toNat % d.toNat)), ()), ()) := by
  unfold ref01_Part
  have ha := a.isLt
  have hdl := d.isLt
  have hfun : ∀ z : (Int × Unit) × ((List Bool) × (List Bool) × (List Bool) × (List Bool) × (List Bool) × (List Bool) × Unit), ref01_Part_s0 z.1.1 z.2.1 z.2.2.1 z.2.2.2.1 z.2.2.2.2.1 z.2.2.2.2.2.1 z.2.2.2.2.2.2.1 = ref01_Part_s0 z.1.1 z.2.1 z.2.2.1 z.2.2.2.1 z.2.2.2.2.1 z.2.2.2.2.2.1 z.2.2.2.2.2.2.1 := fun _ => rfl
  have key := loop_down (f := fun (z : (Int × Unit) × ((List Bool) × (List Bool) × (List Bool) × (List Bool) × (List Bool) × (List Bool) × Unit)) => ref01_Part_s0 z.1.1 z.2.1 z.2.2.1 z.2.2.2.1 z.2.2.2.2.1 z.2.2.2.2.2.1 z.2.2.2.2.2.2.1)
    (fun i => ((((i : Nat) : Int) - 1, ()), rowB a, rowB d, List.replicate 128 false, List.replicate 128 false, rowB (BitVec.ofNat 128 (a.toNat / 2 ^ i / d.toNat * 2 ^ i)), rowB (BitVec.ofNat 128 (a.toNat / 2 ^ i % d.toNat)), ())) (fun i => i ≤ 128)
    (r := ((rowB (BitVec.ofNat 128 (a.toNat / d.toNat)), rowB (BitVec.ofNat 128 (a.toNat % d.toNat)), ()), ())) ?_ ?_ 128 (by omega)
  · have h0 : a.toNat / 2 ^ 128 = 0 := Nat.div_eq_of_lt ha
    have hz : rowB (BitVec.ofNat 128 0) = List.replicate 128 false := by rw [row_zero]; exact row_ext fun i _ => by simp
    simp only [h0, Nat.zero_div, Nat.zero_mod, Nat.zero_mul, hz] at key
    exact key
  · intro i hi
    left
    refine ⟨?_, by omega⟩
    have hi' : i < 128 := by omega
    simp only
    unfold ref01_Part_s0
    rw [dpos, cond_true, pm]
    have hA : a.toNat / 2 ^ i = 2 * (a.toNat / 2 ^ (i + 1)) + (if a.toNat.testBit i then 1 else 0) := by
      rw [Nat.testBit_eq_decide_div_mod_eq, Nat.pow_succ, ← Nat.div_div_eq_div_mul]
      have : a.toNat / 2 ^ i % 2 = 0 ∨ a.toNat / 2 ^ i % 2 = 1 := by omega
      rcases this with h | h <;> simp [h] <;> omega
    obtain ⟨b, hb1, hb2, hb3⟩ : ∃ b : Nat, b ≤ 1 ∧ (if a.toNat.testBit i then 1 else 0) = b ∧ a.toNat.testBit i = decide (b = 1) := by
      cases a.toNat.testBit i
      · exact ⟨0, by omega, rfl, rfl⟩
      · exact ⟨1, by omega, rfl, rfl⟩
    rw [hb2] at hA
    have hle : a.toNat / 2 ^ i / d.toNat * 2 ^ i ≤ a.toNat := Nat.le_trans (Nat.mul_le_mul_right _ (Nat.div_le_self _ _)) (Nat.div_mul_le_self _ _)
    obtain ⟨s1, s2⟩ := part_step (A := a.toNat / 2 ^ (i + 1)) hd hb1
    rw [← hA] at s1 s2
    have hLd := Nat.mod_lt (a.toNat / 2 ^ (i + 1)) hd
    generalize hL : a.toNat / 2 ^ (i + 1) % d.toNat = L at *
    generalize hQ : a.toNat / 2 ^ (i + 1) / d.toNat = Q at *
    -- the row of what is left, moved, with the next bit
    have hrd : rdI (rowB a) (i : Int) = some (decide (b = 1)) := by rw [← hb3]; exact row_rd _ hi'
    have h127 : rdI (rowB (BitVec.ofNat 128 L)) (127 : Int) = some (decide (2 ^ 127 ≤ L)) := by
      have := row_rd (BitVec.ofNat 128 L).getLsbD (i := 127) (by omega)
      rw [show ((127 : Nat) : Int) = 127 from rfl] at this
      rw [show rdI (rowB (BitVec.ofNat 128 L)) (127 : Int) = _ from this]
      congr 1
      simp only [BitVec.getLsbD_ofNat, Nat.lt_irrefl, decide_true, Bool.true_and, show (127 : Nat) < 128 from by omega]
      rw [Nat.testBit_eq_decide_div_mod_eq]
      have h2 : L / 2 ^ 127 < 2 := Nat.div_lt_of_lt_mul (by omega)
      by_cases h : 2 ^ 127 ≤ L
      · rw [decide_eq_true h]
        have : 1 ≤ L / 2 ^ 127 := (Nat.le_div_iff_mul_le (by omega)).2 (by omega)
        exact decide_eq_true (by omega)
      · rw [decide_eq_false h, Nat.div_eq_of_lt (by omega)]
        rfl
    have hck : (Option.map (fun _ => (127 : Int)) (ckI 127 128)) = some 127 := by decide
    have hck0 : (Option.map (fun _ => (0 : Int)) (ckI 0 128)) = some 0 := by decide
    have hst : stI (rowB (BitVec.ofNat 128 L <<< 1)) (0 : Int) (decide (b = 1)) = some (rowB (BitVec.ofNat 128 (2 * L + b))) := by
      have := row_st (BitVec.ofNat 128 L <<< 1).getLsbD (i := 0) (by omega) (decide (b = 1))
      rw [show ((0 : Nat) : Int) = 0 from rfl] at this
      rw [show stI (rowB (BitVec.ofNat 128 L <<< 1)) (0 : Int) (decide (b = 1)) = _ from this]
      congr 1
      refine row_ext fun j hj => ?_
      rw [BitVec.getLsbD_ofNat, bit_cons L b j hb1]
      by_cases e : j = 0
      · subst e; simp
      · rw [nbeq e, if_neg e, cond_false, BitVec.getLsbD_shiftLeft, BitVec.getLsbD_ofNat]
        have h1 : ¬ j < 1 := by omega
        have h2 : j - 1 < 128 := by omega
        simp [hj, h1, h2]
    have hm1 : ref01_Moved (rowB (BitVec.ofNat 128 L)) (1 : Int) = some ((rowB (BitVec.ofNat 128 L <<< 1), ()), ()) := moved_up (n := 1) _ (by omega)
    rw [hck, Option.bind_some, h127, Option.bind_some, hm1, Option.bind_some, ck_nat hi', hrd, Option.bind_some, hck0, Option.bind_some, hst, Option.bind_some]
    have hless : ref01_Less (rowB (BitVec.ofNat 128 (2 * L + b))) (rowB d) = some ((decide ((2 * L + b) % 2 ^ 128 < d.toNat), ()), ()) := by
      rw [ref01_Less_ok, BitVec.toNat_ofNat]
    have hdiv : ¬ 2 * L + b < d.toNat → (ref01_Minus (rowB (BitVec.ofNat 128 (2 * L + b))) (rowB d)).bind (fun r_13 => (stI (rowB (BitVec.ofNat 128 (Q * 2 ^ (i + 1)))) (i : Int) true).bind fun v_15 =>
        (some (.inl (((IntKind.i64.wrap ((i : Int) - 1)), ()), rowB a, rowB d, List.replicate 128 false, List.replicate 128 false, v_15, r_13.1.1, ())) : Option (((Int × Unit) × ((List Bool) × (List Bool) × (List Bool) × (List Bool) × (List Bool) × (List Bool) × Unit)) ⊕ (((List Bool) × (List Bool) × Unit) × (Unit))))) =
        some (.inl (((i : Int) - 1, ()), rowB a, rowB d, List.replicate 128 false, List.replicate 128 false, rowB (BitVec.ofNat 128 (a.toNat / 2 ^ i / d.toNat * 2 ^ i)), rowB (BitVec.ofNat 128 (a.toNat / 2 ^ i % d.toNat)), ())) := by
      intro hge
      rw [if_neg hge] at s1 s2
      have e1 : BitVec.ofNat 128 (2 * L + b) - d = BitVec.ofNat 128 (2 * L + b - d.toNat) := by
        apply BitVec.eq_of_toNat_eq
        rw [BitVec.toNat_sub, BitVec.toNat_ofNat, BitVec.toNat_ofNat]
        omega
      have e2 : stI (rowB (BitVec.ofNat 128 (Q * 2 ^ (i + 1)))) (i : Int) true = some (rowB (BitVec.ofNat 128 ((2 * Q + 1) * 2 ^ i))) := by
        rw [show stI (rowB (BitVec.ofNat 128 (Q * 2 ^ (i + 1)))) (i : Int) true = _ from row_st _ hi' true]
        congr 1
        refine row_ext fun j hj => ?_
        rw [show (2 * Q + 1) * 2 ^ i = Q * 2 ^ (i + 1) + 2 ^ i by rw [Nat.pow_succ, Nat.add_mul, Nat.one_mul, Nat.mul_comm 2 Q, Nat.mul_assoc, Nat.mul_comm 2]]
        rw [BitVec.getLsbD_ofNat, BitVec.getLsbD_ofNat, bit_set]
        by_cases e : j = i
        · subst e; simp [hj]
        · rw [nbeq e, if_neg e]; rfl
      rw [ref01_Minus_ok, Option.bind_some, e2, Option.bind_some, e1, s1, s2, wi64d (by omega)]
    have hkeep : 2 * L + b < d.toNat → BitVec.ofNat 128 (Q * 2 ^ (i + 1)) = BitVec.ofNat 128 (a.toNat / 2 ^ i / d.toNat * 2 ^ i) ∧ BitVec.ofNat 128 (2 * L + b) = BitVec.ofNat 128 (a.toNat / 2 ^ i % d.toNat) := by
      intro hlt
      rw [if_pos hlt] at s1 s2
      rw [s1, s2, Nat.pow_succ, Nat.mul_comm (2 ^ i) 2, ← Nat.mul_assoc, Nat.mul_comm Q 2]
      exact ⟨rfl, rfl⟩
    simp only [gsome]
    by_cases hov : 2 ^ 127 ≤ L
    · -- what is left is above all words
      simp only [decide_eq_true hov, Bool.not_true, cond_false, gfalse, cond_true, ck_nat hi']
      exact hdiv (by omega)
    · simp only [decide_eq_false hov, Bool.not_false, cond_true, gtrue, cond_false, hless, Option.bind_some, ck_nat hi']
      rw [Nat.mod_eq_of_lt (show 2 * L + b < 2 ^ 128 by omega)]
      by_cases hlt : 2 * L + b < d.toNat
      · obtain ⟨k1, k2⟩ := hkeep hlt
        rw [decide_eq_true hlt, Bool.not_true, cond_false, k1, k2, wi64d (by omega)]
      · rw [decide_eq_false hlt, Bool.not_false, cond_true]
        exact hdiv hlt
  · intro _
    simp only
    unfold ref01_Part_s0
    rw [dneg, cond_false]
    simp

/-! ### the program's words as numbers -/
/-- the two halves of a number -/
def wp (w : Nat) : Int × Int × Unit := (((w / 18446744073709551616 : Nat) : Int), ((w % 18446744073709551616 : Nat) : Int), ())

abbrev W128 : Nat := 340282366920938463463374607431768211456

theorem wp_of {hi lo : Int} (h1 : inR .u64 hi = true) (h2 : inR .u64 lo = true) : ∃ w, w < 340282366920938463463374607431768211456 ∧ ((hi, lo, ()) : Int × Int × Unit) = wp w := by
  have := u64_of h1
  have := u64_of h2
  refine ⟨hi.toNat * 18446744073709551616 + lo.toNat, by omega, ?_⟩
  unfold wp
  congr 1
  · omega
  · congr 1; omega

theorem wp_inj {a b : Nat} (h : wp a = wp b) : a = b := by
  unfold wp at h
  simp only [Prod.mk.injEq, and_true] at h
  omega

theorem of_wp {w : Nat} (h : w < 340282366920938463463374607431768211456) : ref01_Of (wp w).1 (wp w).2.1 = some ((rowB (BitVec.ofNat 128 w), ()), ()) := by
  unfold wp
  simp only
  rw [ref01_Of_ok (by omega) (by omega)]
  unfold wd
  rw [show (2 : Nat) ^ 64 = 18446744073709551616 from by decide, show w / 18446744073709551616 * 18446744073709551616 + w % 18446744073709551616 = w by omega]

theorem bits_Add64_eq : bits_Add64 = add64F := rfl
theorem bits_Sub64_eq : bits_Sub64 = sub64F := rfl

theorem word_Add_ok {a b : Nat} (ha : a < 340282366920938463463374607431768211456) (hb : b < 340282366920938463463374607431768211456) :
    word_Add (wp a) (wp b) = some ((wp ((a + b) % 340282366920938463463374607431768211456), decide (340282366920938463463374607431768211456 ≤ a + b), ()), ()) := by
  unfold word_Add wp
  simp only [bits_Add64_eq, add64F]
  rw [if_pos (by omega), Option.bind_some]
  simp only
  rw [if_pos (by omega), Option.bind_some]
  dsimp only
  congr 3
  · congr 1
    · omega
    · congr 1; omega
  · congr 1
    by_cases h : 340282366920938463463374607431768211456 ≤ a + b
    · rw [decide_eq_true h, decide_eq_true (by omega)]
    · rw [decide_eq_false h, decide_eq_false (by omega)]

theorem word_Sub_ok {a b : Nat} (ha : a < 340282366920938463463374607431768211456) (hb : b < 340282366920938463463374607431768211456) :
    word_Sub (wp a) (wp b) = some ((wp ((a + (340282366920938463463374607431768211456 - b)) % 340282366920938463463374607431768211456), decide (a < b), ()), ()) := by
  unfold word_Sub wp
  simp only [bits_Sub64_eq, sub64F]
  rw [if_pos (by omega), Option.bind_some]
  simp only
  by_cases hlo : ((a % 18446744073709551616 : Nat) : Int) < ((b % 18446744073709551616 : Nat) : Int) + 0
  · rw [if_pos hlo, if_pos (by omega), Option.bind_some]
    dsimp only
    congr 3
    · congr 1
      · omega
      · congr 1; omega
    · congr 1
      by_cases h : a < b
      · rw [decide_eq_true h, decide_eq_true (by split <;> omega)]
      · rw [decide_eq_false h, decide_eq_false (by split <;> omega)]
  · rw [if_neg hlo, if_pos (by omega), Option.bind_some]
    dsimp only
    congr 3
    · congr 1
      · omega
      · congr 1; omega
    · congr 1
      by_cases h : a < b
      · rw [decide_eq_true h, decide_eq_true (by split <;> omega)]
      · rw [decide_eq_false h, decide_eq_false (by split <;> omega)]

end Go.L

namespace Go.L
open Go Go.Pv
set_option maxRecDepth 100000

theorem loop_meas {σ ρ : Type} {f : σ → Option (σ ⊕ ρ)} (I : σ → Prop) (μ : σ → Nat) {r : ρ} (step : ∀ x, I x → f x = some (.inr r) ∨ ∃ y, f x = some (.inl y) ∧ I y ∧ μ y < μ x) {x : σ} (h : I x) : loopR f x = some r := by
  obtain ⟨r', h1, rfl⟩ := loopR_inv I μ (fun r' => r' = r) (fun x hx => (step x hx).imp (fun h => ⟨r, h, rfl⟩) id) h
  exact h1

theorem wrapu (n : Int) : IntKind.u64.wrap n = n % 18446744073709551616 := by
  simp only [IntKind.wrap, IntKind.signed, IntKind.bits]
  simp

theorem and_mask {n : Nat} (h1 : n < 18446744073709551616) : bitsI .and .u64 (n : Int) 4294967295 = ((n % 4294967296 : Nat) : Int) := by
  have key : (BitVec.ofInt 64 (n : Int) &&& BitVec.ofInt 64 4294967295).toNat = n % 4294967296 := by
    rw [BitVec.toNat_and, BitVec.ofInt_natCast, BitVec.toNat_ofNat]
    have e2 : (BitVec.ofInt 64 4294967295).toNat = 2 ^ 32 - 1 := by decide
    rw [e2, Nat.mod_eq_of_lt (show n < 2 ^ 64 by omega), Nat.and_two_pow_sub_one_eq_mod]
  show IntKind.u64.wrap ((BitVec.ofInt 64 (n : Int) &&& BitVec.ofInt 64 4294967295).toNat : Int) = _
  rw [key, wu64 (by omega)]

theorem fdiv_pow (n k : Nat) : ((n : Int).fdiv (2 ^ k)) = ((n / 2 ^ k : Nat) : Int) := by
  rw [Int.fdiv_eq_ediv_of_nonneg _ (Int.le_of_lt (Int.pow_pos (by decide)))]
  simp

theorem shr_ok {n k : Nat} : shrI .u64 (n : Int) (k : Int) = some (((n / 2 ^ min k 64 : Nat) : Int)) := by
  unfold shrI
  rw [if_neg (by omega), Int.toNat_natCast]
  show some ((n : Int).fdiv (2 ^ (min k 64))) = _
  rw [fdiv_pow]

theorem shl_ok {n k : Nat} : shlI .u64 (n : Int) (k : Int) = some (((n * 2 ^ min k 64 % 18446744073709551616 : Nat) : Int)) := by
  unfold shlI
  rw [if_neg (by omega), Int.toNat_natCast]
  show some (IntKind.u64.wrap ((n : Int) * 2 ^ (min k 64))) = _
  rw [wrapu]
  congr 1

theorem mul64_nat (x y : Nat) : x * y = (x / 4294967296) * (y / 4294967296) * 18446744073709551616 + ((x / 4294967296) * (y % 4294967296) + (x % 4294967296) * (y / 4294967296)) * 4294967296 + (x % 4294967296) * (y % 4294967296) := by
  have h1 : x = 4294967296 * (x / 4294967296) + x % 4294967296 := by omega
  have h2 : y = 4294967296 * (y / 4294967296) + y % 4294967296 := by omega
  generalize x / 4294967296 = a at *
  generalize x % 4294967296 = b at *
  generalize y / 4294967296 = c at *
  generalize y % 4294967296 = d at *
  subst h1; subst h2
  rw [Nat.add_mul, Nat.mul_add, Nat.mul_add, Nat.mul_mul_mul_comm, Nat.mul_assoc 4294967296 a d, Nat.mul_left_comm b 4294967296 c]
  omega

theorem bits_Mul64_ok {x y : Nat} (hx : x < 18446744073709551616) (hy : y < 18446744073709551616) :
    bits_Mul64 (x : Int) (y : Int) = some ((((x * y / 18446744073709551616 : Nat) : Int), ((x * y % 18446744073709551616 : Nat) : Int), ()), ()) := by
  unfold bits_Mul64
  have key := mul64_nat x y
  have b1 : x / 4294967296 ≤ 4294967295 := by omega
  have b2 : x % 4294967296 ≤ 4294967295 := by omega
  have b3 : y / 4294967296 ≤ 4294967295 := by omega
  have b4 : y % 4294967296 ≤ 4294967295 := by omega
  simp only [and_mask hx, and_mask hy]
  rw [show (x : Int).fdiv (2 ^ 32) = ((x / 4294967296 : Nat) : Int) from fdiv_pow x 32, show (y : Int).fdiv (2 ^ 32) = ((y / 4294967296 : Nat) : Int) from fdiv_pow y 32]
  have m1 := Nat.mul_le_mul b1 b3
  have m2 := Nat.mul_le_mul b1 b4
  have m3 := Nat.mul_le_mul b2 b3
  have m4 := Nat.mul_le_mul b2 b4
  have e1 : ((x / 4294967296 : Nat) : Int) * ((y / 4294967296 : Nat) : Int) = (((x / 4294967296) * (y / 4294967296) : Nat) : Int) := by simp
  have e2 : ((x / 4294967296 : Nat) : Int) * ((y % 4294967296 : Nat) : Int) = (((x / 4294967296) * (y % 4294967296) : Nat) : Int) := by simp
  have e3 : ((x % 4294967296 : Nat) : Int) * ((y / 4294967296 : Nat) : Int) = (((x % 4294967296) * (y / 4294967296) : Nat) : Int) := by simp
  have e4 : ((x % 4294967296 : Nat) : Int) * ((y % 4294967296 : Nat) : Int) = (((x % 4294967296) * (y % 4294967296) : Nat) : Int) := by simp
  have e5 : (x : Int) * (y : Int) = ((x * y : Nat) : Int) := by simp
  rw [e1, e2, e3, e4, e5, key]
  generalize (x / 4294967296) * (y / 4294967296) = p at *
  generalize (x / 4294967296) * (y % 4294967296) = q at *
  generalize (x % 4294967296) * (y / 4294967296) = r at *
  generalize (x % 4294967296) * (y % 4294967296) = s at *
  clear e1 e2 e3 e4 e5 key
  rw [wu64 (n := q) (by omega), wu64 (n := s) (by omega), wu64 (n := p) (by omega), wu64 (n := r) (by omega)]
  rw [show (s : Int).fdiv (2 ^ 32) = ((s / 4294967296 : Nat) : Int) from fdiv_pow s 32]
  rw [show (q : Int) + ((s / 4294967296 : Nat) : Int) = ((q + s / 4294967296 : Nat) : Int) by simp, wu64 (by omega)]
  rw [and_mask (n := q + s / 4294967296) (by omega), show ((q + s / 4294967296 : Nat) : Int).fdiv (2 ^ 32) = (((q + s / 4294967296) / 4294967296 : Nat) : Int) from fdiv_pow _ 32]
  rw [show (((q + s / 4294967296) % 4294967296 : Nat) : Int) + (r : Int) = (((q + s / 4294967296) % 4294967296 + r : Nat) : Int) by simp, wu64 (by omega)]
  rw [show (((q + s / 4294967296) % 4294967296 + r : Nat) : Int).fdiv (2 ^ 32) = ((((q + s / 4294967296) % 4294967296 + r) / 4294967296 : Nat) : Int) from fdiv_pow _ 32]
  rw [wrapu, wrapu, wrapu]
  congr 3
  omega

theorem word_Mul_ok {a b : Nat} (ha : a < 340282366920938463463374607431768211456) (hb : b < 340282366920938463463374607431768211456) :
    word_Mul (wp a) (wp b) = some ((wp (a * b % 340282366920938463463374607431768211456), ()), ()) := by
  unfold word_Mul
  have key : a * b = (a / 18446744073709551616) * (b / 18446744073709551616) * 340282366920938463463374607431768211456 + ((a / 18446744073709551616) * (b % 18446744073709551616) + (a % 18446744073709551616) * (b / 18446744073709551616)) * 18446744073709551616 + (a % 18446744073709551616) * (b % 18446744073709551616) := by
    have h1 : a = 18446744073709551616 * (a / 18446744073709551616) + a % 18446744073709551616 := by omega
    have h2 : b = 18446744073709551616 * (b / 18446744073709551616) + b % 18446744073709551616 := by omega
    generalize a / 18446744073709551616 = p at *
    generalize a % 18446744073709551616 = q at *
    generalize b / 18446744073709551616 = c at *
    generalize b % 18446744073709551616 = d at *
    subst h1; subst h2
    rw [Nat.add_mul, Nat.mul_add, Nat.mul_add, Nat.mul_mul_mul_comm, Nat.mul_assoc 18446744073709551616 p d, Nat.mul_left_comm q 18446744073709551616 c]
    omega
  unfold wp
  simp only
  rw [bits_Mul64_ok (by omega) (by omega), Option.bind_some]
  simp only
  have e2 : ((a / 18446744073709551616 : Nat) : Int) * ((b % 18446744073709551616 : Nat) : Int) = (((a / 18446744073709551616) * (b % 18446744073709551616) : Nat) : Int) := by simp
  have e3 : ((a % 18446744073709551616 : Nat) : Int) * ((b / 18446744073709551616 : Nat) : Int) = (((a % 18446744073709551616) * (b / 18446744073709551616) : Nat) : Int) := by simp
  rw [e2, e3, key]
  generalize (a / 18446744073709551616) * (b / 18446744073709551616) = p at *
  generalize (a / 18446744073709551616) * (b % 18446744073709551616) = q at *
  generalize (a % 18446744073709551616) * (b / 18446744073709551616) = r at *
  generalize (a % 18446744073709551616) * (b % 18446744073709551616) = s at *
  rw [wrapu, wrapu, wrapu, wrapu]
  refine congrArg some (Prod.ext (Prod.ext (Prod.ext ?_ (Prod.ext ?_ rfl)) rfl) rfl)
  · dsimp only; omega
  · dsimp only; omega

/-! ### one digit of a long division -/
theorem knuth {u c y1 y0 q rh : Nat} (hc : c < 4294967296) (hy1 : 2147483648 ≤ y1) (hy0 : y0 < 4294967296) (hu : u < y1 * 4294967296 + y0) (hq : q ≤ 4294967297) (hI : q * y1 + rh = u) (hQ : (u * 4294967296 + c) / (y1 * 4294967296 + y0) ≤ q) :
    (q < 4294967296 ∧ q * y0 ≤ 4294967296 * rh + c → q = (u * 4294967296 + c) / (y1 * 4294967296 + y0)) ∧
    ((4294967296 ≤ q ∨ 4294967296 * rh + c < q * y0) → 0 < q ∧ (u * 4294967296 + c) / (y1 * 4294967296 + y0) ≤ q - 1 ∧ (q - 1) * y1 + (rh + y1) = u ∧ (4294967296 ≤ rh + y1 → q - 1 = (u * 4294967296 + c) / (y1 * 4294967296 + y0))) := by
  have hy : 0 < y1 * 4294967296 + y0 := by omega
  have hqy : q * (y1 * 4294967296 + y0) = q * y1 * 4294967296 + q * y0 := by rw [Nat.mul_add, Nat.mul_assoc]
  generalize hQd : (u * 4294967296 + c) / (y1 * 4294967296 + y0) = Q at *
  have hlt : ∀ q', (u * 4294967296 + c) < q' * (y1 * 4294967296 + y0) → Q < q' := fun q' h => by rw [← hQd]; exact (Nat.div_lt_iff_lt_mul hy).2 h
  have hle : ∀ q', q' * (y1 * 4294967296 + y0) ≤ u * 4294967296 + c → q' ≤ Q := fun q' h => by rw [← hQd]; exact (Nat.le_div_iff_mul_le hy).2 h
  have hQB : Q < 4294967296 := hlt _ (by omega)
  refine ⟨fun ⟨h1, h2⟩ => ?_, fun h => ?_⟩
  · have := hle q (by rw [hqy]; omega)
    omega
  · have hgt : Q < q := by
      rcases h with h | h
      · omega
      · exact hlt q (by rw [hqy]; omega)
    have h1 : q * y1 = (q - 1) * y1 + y1 := by
      obtain ⟨m, rfl⟩ : ∃ m, q = m + 1 := ⟨q - 1, by omega⟩
      rw [Nat.add_mul, Nat.one_mul]; rfl
    refine ⟨by omega, by omega, by omega, fun hr => ?_⟩
    have h2 : (q - 1) * y0 ≤ 4294967296 * 4294967295 := Nat.mul_le_mul (by omega) (by omega)
    have := hle (q - 1) (by rw [Nat.mul_add, ← Nat.mul_assoc]; omega)
    omega

/-! ### how many bits a half has -/
theorem bitLen_of {n L : Nat} (h1 : n < 2 ^ L) (h2 : L = 0 ∨ 2 ^ (L - 1) ≤ n) : bitLen n = L := by
  unfold bitLen
  by_cases h : n = 0
  · subst h
    rcases h2 with rfl | h2
    · rfl
    · have := Nat.two_pow_pos (L - 1); omega
  · rw [if_neg h]
    have hL : L ≠ 0 := by rintro rfl; simp at h1; exact h h1
    have := (Nat.log2_eq_iff (k := L - 1) h).2 ⟨h2.resolve_left hL, by rw [Nat.sub_add_cancel (by omega)]; exact h1⟩
    omega

theorem bitLen_spec (n : Nat) : n < 2 ^ bitLen n ∧ (bitLen n = 0 ∨ 2 ^ (bitLen n - 1) ≤ n) := by
  unfold bitLen
  by_cases h : n = 0
  · subst h; simp
  · rw [if_neg h]
    have := (Nat.log2_eq_iff (k := Nat.log2 n) h).1 rfl
    exact ⟨this.2, .inr this.1⟩

theorem bitLen_shift {n k : Nat} (h : 2 ^ k ≤ n) : bitLen n = k + bitLen (n / 2 ^ k) := by
  obtain ⟨h1, h2⟩ := bitLen_spec (n / 2 ^ k)
  have hp := Nat.two_pow_pos k
  have h0 : 1 ≤ n / 2 ^ k := (Nat.le_div_iff_mul_le hp).2 (by omega)
  refine bitLen_of ?_ (.inr ?_)
  · rw [Nat.pow_add, Nat.mul_comm]
    exact (Nat.div_lt_iff_lt_mul hp).1 h1
  · rcases h2 with h2 | h2
    · rw [h2] at h1; omega
    · have hb : bitLen (n / 2 ^ k) ≠ 0 := fun e => by rw [e] at h1; omega
      rw [show k + bitLen (n / 2 ^ k) - 1 = (bitLen (n / 2 ^ k) - 1) + k by omega, Nat.pow_add]
      exact (Nat.le_div_iff_mul_le hp).1 h2

theorem tab_ok : ∀ n : Nat, n < 256 → rdI [0, 1, 2, 2, 3, 3, 3, 3, 4, 4, 4, 4, 4, 4, 4, 4, 5, 5, 5, 5, 5, 5, 5, 5, 5, 5, 5, 5, 5, 5, 5, 5, 6, 6, 6, 6, 6, 6, 6, 6, 6, 6, 6, 6, 6, 6, 6, 6, 6, 6, 6, 6, 6, 6, 6, 6, 6, 6, 6, 6, 6, 6, 6, 6, 7, 7, 7, 7, 7, 7, 7, 7, 7, 7, 7, 7, 7, 7, 7, 7, 7, 7, 7, 7, 7, 7, 7, 7, 7, 7, 7, 7, 7, 7, 7, 7, 7, 7, 7, 7, 7, 7, 7, 7, 7, 7, 7, 7, 7, 7, 7, 7, 7, 7, 7, 7, 7, 7, 7, 7, 7, 7, 7, 7, 7, 7, 7, 7, 8, 8, 8, 8, 8, 8, 8, 8, 8, 8, 8, 8, 8, 8, 8, 8, 8, 8, 8, 8, 8, 8, 8, 8, 8, 8, 8, 8, 8, 8, 8, 8, 8, 8, 8, 8, 8, 8, 8, 8, 8, 8, 8, 8, 8, 8, 8, 8, 8, 8, 8, 8, 8, 8, 8, 8, 8, 8, 8, 8, 8, 8, 8, 8, 8, 8, 8, 8, 8, 8, 8, 8, 8, 8, 8, 8, 8, 8, 8, 8, 8, 8, 8, 8, 8, 8, 8, 8, 8, 8, 8, 8, 8, 8, 8, 8, 8, 8, 8, 8, 8, 8, 8, 8, 8, 8, 8, 8, 8, 8, 8, 8, 8, 8, 8, 8, 8, 8, 8, 8, 8, 8, 8, 8, 8, 8, 8, 8] (n : Int) = some (bitLen n : Int) := by
  have h : ∀ n : Fin 256, rdI [0, 1, 2, 2, 3, 3, 3, 3, 4, 4, 4, 4, 4, 4, 4, 4, 5, 5, 5, 5, 5, 5, 5, 5, 5, 5, 5, 5, 5, 5, 5, 5, 6, 6, 6, 6, 6, 6, 6, 6, 6, 6, 6, 6, 6, 6, 6, 6, 6, 6, 6, 6, 6, 6, 6, 6, 6, 6, 6, 6, 6, 6, 6, 6, 7, 7, 7, 7, 7, 7, 7, 7, 7, 7, 7, 7, 7, 7, 7, 7, 7, 7, 7, 7, 7, 7, 7, 7, 7, 7, 7, 7, 7, 7, 7, 7, 7, 7, 7, 7, 7, 7, 7, 7, 7, 7, 7, 7, 7, 7, 7, 7, 7, 7, 7, 7, 7, 7, 7, 7, 7, 7, 7, 7, 7, 7, 7, 7, 8, 8, 8, 8, 8, 8, 8, 8, 8, 8, 8, 8, 8, 8, 8, 8, 8, 8, 8, 8, 8, 8, 8, 8, 8, 8, 8, 8, 8, 8, 8, 8, 8, 8, 8, 8, 8, 8, 8, 8, 8, 8, 8, 8, 8, 8, 8, 8, 8, 8, 8, 8, 8, 8, 8, 8, 8, 8, 8, 8, 8, 8, 8, 8, 8, 8, 8, 8, 8, 8, 8, 8, 8, 8, 8, 8, 8, 8, 8, 8, 8, 8, 8, 8, 8, 8, 8, 8, 8, 8, 8, 8, 8, 8, 8, 8, 8, 8, 8, 8, 8, 8, 8, 8, 8, 8, 8, 8, 8, 8, 8, 8, 8, 8, 8, 8, 8, 8, 8, 8, 8, 8, 8, 8, 8, 8, 8, 8] ((n.val : Nat) : Int) = some (bitLen n.val : Int) := by decide +kernel
  exact fun n hn => h ⟨n, hn⟩

theorem tabAt {n : Nat} (hn : n < 256) : rdI [0, 1, 2, 2, 3, 3, 3, 3, 4, 4, 4, 4, 4, 4, 4, 4, 5, 5, 5, 5, 5, 5, 5, 5, 5, 5, 5, 5, 5, 5, 5, 5, 6, 6, 6, 6, 6, 6, 6, 6, 6, 6, 6, 6, 6, 6, 6, 6, 6, 6, 6, 6, 6, 6, 6, 6, 6, 6, 6, 6, 6, 6, 6, 6, 7, 7, 7, 7, 7, 7, 7, 7, 7, 7, 7, 7, 7, 7, 7, 7, 7, 7, 7, 7, 7, 7, 7, 7, 7, 7, 7, 7, 7, 7, 7, 7, 7, 7, 7, 7, 7, 7, 7, 7, 7, 7, 7, 7, 7, 7, 7, 7, 7, 7, 7, 7, 7, 7, 7, 7, 7, 7, 7, 7, 7, 7, 7, 7, 8, 8, 8, 8, 8, 8, 8, 8, 8, 8, 8, 8, 8, 8, 8, 8, 8, 8, 8, 8, 8, 8, 8, 8, 8, 8, 8, 8, 8, 8, 8, 8, 8, 8, 8, 8, 8, 8, 8, 8, 8, 8, 8, 8, 8, 8, 8, 8, 8, 8, 8, 8, 8, 8, 8, 8, 8, 8, 8, 8, 8, 8, 8, 8, 8, 8, 8, 8, 8, 8, 8, 8, 8, 8, 8, 8, 8, 8, 8, 8, 8, 8, 8, 8, 8, 8, 8, 8, 8, 8, 8, 8, 8, 8, 8, 8, 8, 8, 8, 8, 8, 8, 8, 8, 8, 8, 8, 8, 8, 8, 8, 8, 8, 8, 8, 8, 8, 8, 8, 8, 8, 8, 8, 8, 8, 8, 8, 8] (IntKind.u8.wrap (n : Int)) = some (bitLen n : Int) := by
  rw [wrap_u8 (by omega) (by omega), tab_ok n hn]

theorem bitLen_le {n k : Nat} (h : n < 2 ^ k) : bitLen n ≤ k := by
  rcases (bitLen_spec n).2 with h2 | h2
  · omega
  · rcases Nat.lt_or_ge k (bitLen n) with h3 | h3
    · have := Nat.pow_le_pow_right (n := 2) (by omega) (show k ≤ bitLen n - 1 by omega)
      omega
    · exact h3

theorem wadd {a b : Nat} (h : a + b < 1000000000) : IntKind.i64.wrap ((a : Int) + (b : Int)) = ((a + b : Nat) : Int) := by
  rw [wrap_i64 (by omega) (by omega)]; omega
theorem wself {a : Nat} (h : a < 1000000000) : IntKind.i64.wrap (a : Int) = (a : Int) := wrap_i64 (by omega) (by omega)

theorem bits_Len64_ok {n : Nat} (h : n < 18446744073709551616) : bits_Len64 (n : Int) = some (((bitLen n : Int), ()), ()) := by
  have f32 : (n : Int).fdiv (2 ^ 32) = ((n / 4294967296 : Nat) : Int) := fdiv_pow n 32
  have l8 : ∀ m : Nat, m < 256 → bitLen m ≤ 8 := fun m hm => bitLen_le (by omega)
  have key : ∀ m : Nat, ∀ b : Nat, m < 4294967296 → b ≤ 32 →
      (bif (decide ((m : Int) ≥ 65536)) then
        (bif (decide ((m : Int).fdiv (2 ^ 16) ≥ 256)) then
          (rdI [0, 1, 2, 2, 3, 3, 3, 3, 4, 4, 4, 4, 4, 4, 4, 4, 5, 5, 5, 5, 5, 5, 5, 5, 5, 5, 5, 5, 5, 5, 5, 5, 6, 6, 6, 6, 6, 6, 6, 6, 6, 6, 6, 6, 6, 6, 6, 6, 6, 6, 6, 6, 6, 6, 6, 6, 6, 6, 6, 6, 6, 6, 6, 6, 7, 7, 7, 7, 7, 7, 7, 7, 7, 7, 7, 7, 7, 7, 7, 7, 7, 7, 7, 7, 7, 7, 7, 7, 7, 7, 7, 7, 7, 7, 7, 7, 7, 7, 7, 7, 7, 7, 7, 7, 7, 7, 7, 7, 7, 7, 7, 7, 7, 7, 7, 7, 7, 7, 7, 7, 7, 7, 7, 7, 7, 7, 7, 7, 8, 8, 8, 8, 8, 8, 8, 8, 8, 8, 8, 8, 8, 8, 8, 8, 8, 8, 8, 8, 8, 8, 8, 8, 8, 8, 8, 8, 8, 8, 8, 8, 8, 8, 8, 8, 8, 8, 8, 8, 8, 8, 8, 8, 8, 8, 8, 8, 8, 8, 8, 8, 8, 8, 8, 8, 8, 8, 8, 8, 8, 8, 8, 8, 8, 8, 8, 8, 8, 8, 8, 8, 8, 8, 8, 8, 8, 8, 8, 8, 8, 8, 8, 8, 8, 8, 8, 8, 8, 8, 8, 8, 8, 8, 8, 8, 8, 8, 8, 8, 8, 8, 8, 8, 8, 8, 8, 8, 8, 8, 8, 8, 8, 8, 8, 8, 8, 8, 8, 8, 8, 8, 8, 8, 8, 8, 8, 8] (IntKind.u8.wrap (((m : Int).fdiv (2 ^ 16)).fdiv (2 ^ 8)))).bind fun v => some (((IntKind.i64.wrap ((IntKind.i64.wrap ((IntKind.i64.wrap ((b : Int) + 16)) + 8)) + (IntKind.i64.wrap v))), ()), ())
        else (rdI [0, 1, 2, 2, 3, 3, 3, 3, 4, 4, 4, 4, 4, 4, 4, 4, 5, 5, 5, 5, 5, 5, 5, 5, 5, 5, 5, 5, 5, 5, 5, 5, 6, 6, 6, 6, 6, 6, 6, 6, 6, 6, 6, 6, 6, 6, 6, 6, 6, 6, 6, 6, 6, 6, 6, 6, 6, 6, 6, 6, 6, 6, 6, 6, 7, 7, 7, 7, 7, 7, 7, 7, 7, 7, 7, 7, 7, 7, 7, 7, 7, 7, 7, 7, 7, 7, 7, 7, 7, 7, 7, 7, 7, 7, 7, 7, 7, 7, 7, 7, 7, 7, 7, 7, 7, 7, 7, 7, 7, 7, 7, 7, 7, 7, 7, 7, 7, 7, 7, 7, 7, 7, 7, 7, 7, 7, 7, 7, 8, 8, 8, 8, 8, 8, 8, 8, 8, 8, 8, 8, 8, 8, 8, 8, 8, 8, 8, 8, 8, 8, 8, 8, 8, 8, 8, 8, 8, 8, 8, 8, 8, 8, 8, 8, 8, 8, 8, 8, 8, 8, 8, 8, 8, 8, 8, 8, 8, 8, 8, 8, 8, 8, 8, 8, 8, 8, 8, 8, 8, 8, 8, 8, 8, 8, 8, 8, 8, 8, 8, 8, 8, 8, 8, 8, 8, 8, 8, 8, 8, 8, 8, 8, 8, 8, 8, 8, 8, 8, 8, 8, 8, 8, 8, 8, 8, 8, 8, 8, 8, 8, 8, 8, 8, 8, 8, 8, 8, 8, 8, 8, 8, 8, 8, 8, 8, 8, 8, 8, 8, 8, 8, 8, 8, 8, 8, 8] (IntKind.u8.wrap ((m : Int).fdiv (2 ^ 16)))).bind fun v => some (((IntKind.i64.wrap ((IntKind.i64.wrap ((b : Int) + 16)) + (IntKind.i64.wrap v))), ()), ()))
      else (bif (decide ((m : Int) ≥ 256)) then
          (rdI [0, 1, 2, 2, 3, 3, 3, 3, 4, 4, 4, 4, 4, 4, 4, 4, 5, 5, 5, 5, 5, 5, 5, 5, 5, 5, 5, 5, 5, 5, 5, 5, 6, 6, 6, 6, 6, 6, 6, 6, 6, 6, 6, 6, 6, 6, 6, 6, 6, 6, 6, 6, 6, 6, 6, 6, 6, 6, 6, 6, 6, 6, 6, 6, 7, 7, 7, 7, 7, 7, 7, 7, 7, 7, 7, 7, 7, 7, 7, 7, 7, 7, 7, 7, 7, 7, 7, 7, 7, 7, 7, 7, 7, 7, 7, 7, 7, 7, 7, 7, 7, 7, 7, 7, 7, 7, 7, 7, 7, 7, 7, 7, 7, 7, 7, 7, 7, 7, 7, 7, 7, 7, 7, 7, 7, 7, 7, 7, 8, 8, 8, 8, 8, 8, 8, 8, 8, 8, 8, 8, 8, 8, 8, 8, 8, 8, 8, 8, 8, 8, 8, 8, 8, 8, 8, 8, 8, 8, 8, 8, 8, 8, 8, 8, 8, 8, 8, 8, 8, 8, 8, 8, 8, 8, 8, 8, 8, 8, 8, 8, 8, 8, 8, 8, 8, 8, 8, 8, 8, 8, 8, 8, 8, 8, 8, 8, 8, 8, 8, 8, 8, 8, 8, 8, 8, 8, 8, 8, 8, 8, 8, 8, 8, 8, 8, 8, 8, 8, 8, 8, 8, 8, 8, 8, 8, 8, 8, 8, 8, 8, 8, 8, 8, 8, 8, 8, 8, 8, 8, 8, 8, 8, 8, 8, 8, 8, 8, 8, 8, 8, 8, 8, 8, 8, 8, 8] (IntKind.u8.wrap ((m : Int).fdiv (2 ^ 8)))).bind fun v => some (((IntKind.i64.wrap ((IntKind.i64.wrap ((b : Int) + 8)) + (IntKind.i64.wrap v))), ()), ())
        else (rdI [0, 1, 2, 2, 3, 3, 3, 3, 4, 4, 4, 4, 4, 4, 4, 4, 5, 5, 5, 5, 5, 5, 5, 5, 5, 5, 5, 5, 5, 5, 5, 5, 6, 6, 6, 6, 6, 6, 6, 6, 6, 6, 6, 6, 6, 6, 6, 6, 6, 6, 6, 6, 6, 6, 6, 6, 6, 6, 6, 6, 6, 6, 6, 6, 7, 7, 7, 7, 7, 7, 7, 7, 7, 7, 7, 7, 7, 7, 7, 7, 7, 7, 7, 7, 7, 7, 7, 7, 7, 7, 7, 7, 7, 7, 7, 7, 7, 7, 7, 7, 7, 7, 7, 7, 7, 7, 7, 7, 7, 7, 7, 7, 7, 7, 7, 7, 7, 7, 7, 7, 7, 7, 7, 7, 7, 7, 7, 7, 8, 8, 8, 8, 8, 8, 8, 8, 8, 8, 8, 8, 8, 8, 8, 8, 8, 8, 8, 8, 8, 8, 8, 8, 8, 8, 8, 8, 8, 8, 8, 8, 8, 8, 8, 8, 8, 8, 8, 8, 8, 8, 8, 8, 8, 8, 8, 8, 8, 8, 8, 8, 8, 8, 8, 8, 8, 8, 8, 8, 8, 8, 8, 8, 8, 8, 8, 8, 8, 8, 8, 8, 8, 8, 8, 8, 8, 8, 8, 8, 8, 8, 8, 8, 8, 8, 8, 8, 8, 8, 8, 8, 8, 8, 8, 8, 8, 8, 8, 8, 8, 8, 8, 8, 8, 8, 8, 8, 8, 8, 8, 8, 8, 8, 8, 8, 8, 8, 8, 8, 8, 8, 8, 8, 8, 8, 8, 8] (IntKind.u8.wrap (m : Int))).bind fun v => some (((IntKind.i64.wrap ((b : Int) + (IntKind.i64.wrap v))), ()), ())) : Option ((Int × Unit) × Unit)) = some ((((b + bitLen m : Nat) : Int), ()), ()) := by
    intro m b hm hb
    have g16 : (m : Int).fdiv (2 ^ 16) = ((m / 65536 : Nat) : Int) := fdiv_pow m 16
    have g8 : (m : Int).fdiv (2 ^ 8) = ((m / 256 : Nat) : Int) := fdiv_pow m 8
    have g24 : ((m / 65536 : Nat) : Int).fdiv (2 ^ 8) = ((m / 65536 / 256 : Nat) : Int) := fdiv_pow _ 8
    rw [g16, g8, g24]
    have w16 : IntKind.i64.wrap ((b : Int) + 16) = ((b + 16 : Nat) : Int) := wadd (b := 16) (by omega)
    have w8 : IntKind.i64.wrap ((b : Int) + 8) = ((b + 8 : Nat) : Int) := wadd (b := 8) (by omega)
    have w24 : IntKind.i64.wrap (((b + 16 : Nat) : Int) + 8) = ((b + 16 + 8 : Nat) : Int) := wadd (b := 8) (by omega)
    rw [w16, w8, w24]
    by_cases h16 : 65536 ≤ m
    · rw [decide_eq_true (show (m : Int) ≥ 65536 by omega), cond_true]
      have s16 := bitLen_shift (n := m) (k := 16) h16
      rw [show (2 : Nat) ^ 16 = 65536 from rfl] at s16
      by_cases h8 : 256 ≤ m / 65536
      · have s8 := bitLen_shift (n := m / 65536) (k := 8) h8
        rw [show (2 : Nat) ^ 8 = 256 from rfl] at s8
        have := l8 (m / 65536 / 256) (by omega)
        rw [decide_eq_true (show ((m / 65536 : Nat) : Int) ≥ 256 by omega), cond_true, tabAt (by omega), Option.bind_some, wself (by omega), wadd (by omega), s16, s8]
        congr 4
        omega
      · have := l8 (m / 65536) (by omega)
        rw [decide_eq_false (show ¬ ((m / 65536 : Nat) : Int) ≥ 256 by omega), cond_false, tabAt (by omega), Option.bind_some, wself (by omega), wadd (by omega), s16]
        congr 4
        omega
    · rw [decide_eq_false (show ¬ (m : Int) ≥ 65536 by omega), cond_false]
      by_cases h8 : 256 ≤ m
      · have s8 := bitLen_shift (n := m) (k := 8) h8
        rw [show (2 : Nat) ^ 8 = 256 from rfl] at s8
        have := l8 (m / 256) (by omega)
        rw [decide_eq_true (show (m : Int) ≥ 256 by omega), cond_true, tabAt (by omega), Option.bind_some, wself (by omega), wadd (by omega), s8]
        congr 4
        omega
      · have := l8 m (by omega)
        rw [decide_eq_false (show ¬ (m : Int) ≥ 256 by omega), cond_false, tabAt (by omega), Option.bind_some, wself (by omega), wadd (by omega)]
  unfold bits_Len64
  by_cases hb : 4294967296 ≤ n
  · rw [decide_eq_true (show (n : Int) ≥ 4294967296 by omega), cond_true, f32]
    have := key (n / 4294967296) 32 (by omega) (by omega)
    have s32 := bitLen_shift (n := n) (k := 32) hb
    rw [show (2 : Nat) ^ 32 = 4294967296 from rfl] at s32
    rw [s32]
    exact this
  · rw [decide_eq_false (show ¬ (n : Int) ≥ 4294967296 by omega), cond_false]
    have := key n 0 (by omega) (by omega)
    rw [Nat.zero_add] at this
    exact this

end Go.L

namespace Go.L
open Go Go.Pv
set_option maxRecDepth 100000

theorem rem_wrap {u c y : Nat} (hy : 0 < y) (hy2 : y < 18446744073709551616) :
    IntKind.u64.wrap ((IntKind.u64.wrap ((IntKind.u64.wrap ((u : Int) * 4294967296)) + (c : Int))) - (IntKind.u64.wrap ((((u * 4294967296 + c) / y : Nat) : Int) * (y : Int)))) = (((u * 4294967296 + c) % y : Nat) : Int) := by
  have h1 := Nat.div_add_mod (u * 4294967296 + c) y
  have h2 := Nat.mod_lt (u * 4294967296 + c) hy
  have e : (((u * 4294967296 + c) / y : Nat) : Int) * (y : Int) = ((y * ((u * 4294967296 + c) / y) : Nat) : Int) := by rw [Nat.mul_comm y, Int.natCast_mul]
  rw [e, wrapu, wrapu, wrapu, wrapu]
  generalize y * ((u * 4294967296 + c) / y) = p at *
  generalize (u * 4294967296 + c) % y = r at *
  omega

theorem digit_lt {u c y : Nat} (hu : u < y) (hc : c < 4294967296) : (u * 4294967296 + c) / y < 4294967296 :=
  (Nat.div_lt_iff_lt_mul (by omega)).2 (by omega)

/-- the invariant of the search for a digit -/
structure Dig (u c y1 y0 q rh : Nat) : Prop where
  hc : c < 4294967296
  hy1 : 2147483648 ≤ y1
  hy1' : y1 < 4294967296
  hy0 : y0 < 4294967296
  hu : u < y1 * 4294967296 + y0
  hq : q ≤ 4294967297
  hI : q * y1 + rh = u
  hr : rh < 4294967296
  hQ : (u * 4294967296 + c) / (y1 * 4294967296 + y0) ≤ q

theorem Dig.init {u c y1 y0 : Nat} (hc : c < 4294967296) (hy1 : 2147483648 ≤ y1) (hy1' : y1 < 4294967296) (hy0 : y0 < 4294967296) (hu : u < y1 * 4294967296 + y0) : Dig u c y1 y0 (u / y1) (u % y1) := by
  have hm := Nat.mod_lt u (show 0 < y1 by omega)
  refine ⟨hc, hy1, hy1', hy0, hu, ?_, by rw [Nat.mul_comm]; exact Nat.div_add_mod u y1, by omega, ?_⟩
  · have : u / y1 < 4294967298 := (Nat.div_lt_iff_lt_mul (by omega)).2 (by omega)
    omega
  · have hy : 0 < y1 * 4294967296 + y0 := by omega
    refine (Nat.le_div_iff_mul_le (by omega)).2 ?_
    have h1 := Nat.div_mul_le_self (u * 4294967296 + c) (y1 * 4294967296 + y0)
    generalize (u * 4294967296 + c) / (y1 * 4294967296 + y0) = Q at *
    rw [Nat.mul_add, ← Nat.mul_assoc] at h1
    omega

theorem div64_s2_ok {s y1 y0 un0 q1 un21 : Nat} (hs : s ≤ 64) (hq1 : q1 < 4294967296) : ∀ {q rh : Nat}, Dig un21 un0 y1 y0 q rh →
    loopR (fun (z : (Int × Int × Int × Int × Int × Int × Int × Int × Int × Unit) × (Unit)) => bits_Div64_s2 z.1.1 z.1.2.1 z.1.2.2.1 z.1.2.2.2.1 z.1.2.2.2.2.1 z.1.2.2.2.2.2.1 z.1.2.2.2.2.2.2.1 z.1.2.2.2.2.2.2.2.1 z.1.2.2.2.2.2.2.2.2.1)
      ((((y1 * 4294967296 + y0 : Nat) : Int), (s : Int), (y1 : Int), (y0 : Int), (un0 : Int), (q1 : Int), (rh : Int), (un21 : Int), (q : Int), ()), ()) =
    some ((((q1 * 4294967296 + (un21 * 4294967296 + un0) / (y1 * 4294967296 + y0) : Nat) : Int), (((un21 * 4294967296 + un0) % (y1 * 4294967296 + y0) / 2 ^ s : Nat) : Int), ()), ()) := by
  intro q rh hD
  refine loop_meas (fun z => ∃ q rh, Dig un21 un0 y1 y0 q rh ∧ z = ((((y1 * 4294967296 + y0 : Nat) : Int), (s : Int), (y1 : Int), (y0 : Int), (un0 : Int), (q1 : Int), (rh : Int), (un21 : Int), (q : Int), ()), ())) (fun z => z.1.2.2.2.2.2.2.2.2.1.toNat) ?_ ⟨q, rh, hD, rfl⟩
  rintro _ ⟨q, rh, hD, rfl⟩
  obtain ⟨k1, k2⟩ := knuth hD.hc hD.hy1 hD.hy0 hD.hu hD.hq hD.hI hD.hQ
  have hQ := digit_lt hD.hu hD.hc
  have hy : 0 < y1 * 4294967296 + y0 := by have := hD.hy1; omega
  have hy2 : y1 * 4294967296 + y0 < 18446744073709551616 := by have := hD.hy1'; have := hD.hy0; omega
  have hy1 := hD.hy1; have hy1' := hD.hy1'; have hy0 := hD.hy0; have hc := hD.hc; have hrh := hD.hr; have hqm := hD.hq
  -- the way out
  have hout : ∀ q', q' = (un21 * 4294967296 + un0) / (y1 * 4294967296 + y0) → (shrI .u64 (IntKind.u64.wrap ((IntKind.u64.wrap ((IntKind.u64.wrap ((un21 : Int) * 4294967296)) + (un0 : Int))) - (IntKind.u64.wrap ((q' : Int) * ((y1 * 4294967296 + y0 : Nat) : Int))))) (s : Int)).bind (fun v_52 =>
      some (((IntKind.u64.wrap ((IntKind.u64.wrap ((q1 : Int) * 4294967296)) + (q' : Int))), v_52, ()), ())) =
      some ((((q1 * 4294967296 + (un21 * 4294967296 + un0) / (y1 * 4294967296 + y0) : Nat) : Int), (((un21 * 4294967296 + un0) % (y1 * 4294967296 + y0) / 2 ^ s : Nat) : Int), ()), ()) := by
    rintro _ rfl
    rw [rem_wrap hy hy2, shr_ok, Option.bind_some, Nat.min_eq_left hs, wrapu, wrapu]
    refine congrArg some (Prod.ext (Prod.ext ?_ rfl) rfl)
    dsimp only
    generalize (un21 * 4294967296 + un0) / (y1 * 4294967296 + y0) = Q at *
    omega
  simp only
  unfold bits_Div64_s2
  simp only [gsome]
  by_cases hq : 4294967296 ≤ q
  · rw [decide_eq_true (show (q : Int) ≥ 4294967296 by omega), cond_true, cond_true]
    obtain ⟨p1, p2, p3, p4⟩ := k2 (.inl hq)
    have e1 : IntKind.u64.wrap ((q : Int) - 1) = ((q - 1 : Nat) : Int) := by rw [wrapu]; omega
    have e2 : IntKind.u64.wrap ((rh : Int) + (y1 : Int)) = ((rh + y1 : Nat) : Int) := by rw [wrapu]; omega
    rw [e1, e2]
    by_cases hr : 4294967296 ≤ rh + y1
    · left
      rw [decide_eq_true (show ((rh + y1 : Nat) : Int) ≥ 4294967296 by omega), cond_true, hout _ (p4 hr)]
      rfl
    · right
      rw [decide_eq_false (show ¬ ((rh + y1 : Nat) : Int) ≥ 4294967296 by omega), cond_false]
      refine ⟨_, rfl, ⟨q - 1, rh + y1, ⟨hD.hc, hD.hy1, hD.hy1', hD.hy0, hD.hu, by omega, p3, by omega, p2⟩, rfl⟩, ?_⟩
      simp only
      omega
  · rw [decide_eq_false (show ¬ (q : Int) ≥ 4294967296 by omega)]
    simp only [Bool.not_false, cond_true, cond_false]
    have hm1 : q * y0 ≤ 4294967295 * 4294967295 := Nat.mul_le_mul (by omega) (by omega)
    have e3 : IntKind.u64.wrap ((q : Int) * (y0 : Int)) = ((q * y0 : Nat) : Int) := by
      rw [show (q : Int) * (y0 : Int) = ((q * y0 : Nat) : Int) by simp, wu64 (by omega)]
    have e4 : IntKind.u64.wrap (4294967296 * (rh : Int)) = ((4294967296 * rh : Nat) : Int) := by
      rw [show 4294967296 * (rh : Int) = ((4294967296 * rh : Nat) : Int) by simp, wu64 (by omega)]
    have e5 : IntKind.u64.wrap (((4294967296 * rh : Nat) : Int) + (un0 : Int)) = ((4294967296 * rh + un0 : Nat) : Int) := by
      rw [show ((4294967296 * rh : Nat) : Int) + (un0 : Int) = ((4294967296 * rh + un0 : Nat) : Int) by simp, wu64 (by omega)]
    rw [e3, e4, e5]
    by_cases hc2 : 4294967296 * rh + un0 < q * y0
    · rw [decide_eq_true (show ((q * y0 : Nat) : Int) > ((4294967296 * rh + un0 : Nat) : Int) by omega), cond_true]
      obtain ⟨p1, p2, p3, p4⟩ := k2 (.inr hc2)
      have e1 : IntKind.u64.wrap ((q : Int) - 1) = ((q - 1 : Nat) : Int) := by rw [wrapu]; omega
      have e2 : IntKind.u64.wrap ((rh : Int) + (y1 : Int)) = ((rh + y1 : Nat) : Int) := by rw [wrapu]; omega
      rw [e1, e2]
      by_cases hr : 4294967296 ≤ rh + y1
      · left
        rw [decide_eq_true (show ((rh + y1 : Nat) : Int) ≥ 4294967296 by omega), cond_true, hout _ (p4 hr)]
        rfl
      · right
        rw [decide_eq_false (show ¬ ((rh + y1 : Nat) : Int) ≥ 4294967296 by omega), cond_false]
        refine ⟨_, rfl, ⟨q - 1, rh + y1, ⟨hD.hc, hD.hy1, hD.hy1', hD.hy0, hD.hu, by omega, p3, by omega, p2⟩, rfl⟩, ?_⟩
        simp only
        omega
    · left
      rw [decide_eq_false (show ¬ ((q * y0 : Nat) : Int) > ((4294967296 * rh + un0 : Nat) : Int) by omega), cond_false, hout q (k1 ⟨by omega, by omega⟩)]
      rfl

theorem div64_mid {s y1 y0 un0 v q' : Nat} (hs : s ≤ 64) (h0 : un0 < 4294967296) (hy1 : 2147483648 ≤ y1) (hy1' : y1 < 4294967296) (hy0 : y0 < 4294967296) (hm : v < y1 * 4294967296 + y0) (hQ : q' < 4294967296) :
    ((quoI .u64 (v : Int) (y1 : Int)).bind fun v_34 =>
      loopR (fun (z : (Int × Int × Int × Int × Int × Int × Int × Int × Int × Unit) × (Unit)) => bits_Div64_s2 z.1.1 z.1.2.1 z.1.2.2.1 z.1.2.2.2.1 z.1.2.2.2.2.1 z.1.2.2.2.2.2.1 z.1.2.2.2.2.2.2.1 z.1.2.2.2.2.2.2.2.1 z.1.2.2.2.2.2.2.2.2.1) ((((y1 * 4294967296 + y0 : Nat) : Int), (s : Int), (y1 : Int), (y0 : Int), (un0 : Int), (q' : Int),
        (IntKind.u64.wrap ((v : Int) - (IntKind.u64.wrap (v_34 * (y1 : Int))))), (v : Int), v_34, ()), ())) =
    some ((((q' * 4294967296 + (v * 4294967296 + un0) / (y1 * 4294967296 + y0) : Nat) : Int), (((v * 4294967296 + un0) % (y1 * 4294967296 + y0) / 2 ^ s : Nat) : Int), ()), ()) := by
  have e1 : quoI .u64 (v : Int) (y1 : Int) = some ((v / y1 : Nat) : Int) := by
    unfold quoI
    rw [if_neg (by omega), Int.tdiv_eq_ediv_of_nonneg (by omega)]
    have : ((v : Int) / (y1 : Int)) = ((v / y1 : Nat) : Int) := by simp
    rw [this, wu64]
    exact Nat.lt_of_le_of_lt (Nat.div_le_self _ _) (by omega)
  have e2 : IntKind.u64.wrap ((v : Int) - IntKind.u64.wrap (((v / y1 : Nat) : Int) * (y1 : Int))) = ((v % y1 : Nat) : Int) := by
    have h1 := Nat.div_add_mod v y1
    have h2 := Nat.mod_lt v (show 0 < y1 by omega)
    rw [show ((v / y1 : Nat) : Int) * (y1 : Int) = ((y1 * (v / y1) : Nat) : Int) by rw [Nat.mul_comm y1, Int.natCast_mul], wrapu, wrapu]
    generalize y1 * (v / y1) = p at *
    generalize v % y1 = r at *
    omega
  rw [e1, Option.bind_some, e2]
  exact div64_s2_ok hs hQ (Dig.init h0 hy1 hy1' hy0 hm)

theorem div64_s0_ok {s y1 y0 un32 un1 un0 : Nat} (hs : s ≤ 64) (h0 : un0 < 4294967296) : ∀ {q rh : Nat}, Dig un32 un1 y1 y0 q rh →
    loopR (fun (z : (Int × Int × Int × Int × Int × Int × Int × Int × Int × Unit) × (Unit)) => bits_Div64_s0 z.1.1 z.1.2.1 z.1.2.2.1 z.1.2.2.2.1 z.1.2.2.2.2.1 z.1.2.2.2.2.2.1 z.1.2.2.2.2.2.2.1 z.1.2.2.2.2.2.2.2.1 z.1.2.2.2.2.2.2.2.2.1)
      ((((y1 * 4294967296 + y0 : Nat) : Int), (s : Int), (y1 : Int), (y0 : Int), (un32 : Int), (un1 : Int), (un0 : Int), (q : Int), (rh : Int), ()), ()) =
    some ((((((un32 * 4294967296 + un1) / (y1 * 4294967296 + y0)) * 4294967296 + ((un32 * 4294967296 + un1) % (y1 * 4294967296 + y0) * 4294967296 + un0) / (y1 * 4294967296 + y0) : Nat) : Int), ((((un32 * 4294967296 + un1) % (y1 * 4294967296 + y0) * 4294967296 + un0) % (y1 * 4294967296 + y0) / 2 ^ s : Nat) : Int), ()), ()) := by
  intro q rh hD
  refine loop_meas (fun z => ∃ q rh, Dig un32 un1 y1 y0 q rh ∧ z = ((((y1 * 4294967296 + y0 : Nat) : Int), (s : Int), (y1 : Int), (y0 : Int), (un32 : Int), (un1 : Int), (un0 : Int), (q : Int), (rh : Int), ()), ())) (fun z => z.1.2.2.2.2.2.2.2.1.toNat) ?_ ⟨q, rh, hD, rfl⟩
  rintro _ ⟨q, rh, hD, rfl⟩
  obtain ⟨k1, k2⟩ := knuth hD.hc hD.hy1 hD.hy0 hD.hu hD.hq hD.hI hD.hQ
  have hQ := digit_lt hD.hu hD.hc
  have hy : 0 < y1 * 4294967296 + y0 := by have := hD.hy1; omega
  have hy2 : y1 * 4294967296 + y0 < 18446744073709551616 := by have := hD.hy1'; have := hD.hy0; omega
  have hy1 := hD.hy1; have hy1' := hD.hy1'; have hy0 := hD.hy0; have hc := hD.hc; have hrh := hD.hr; have hqm := hD.hq
  have hm := Nat.mod_lt (un32 * 4294967296 + un1) hy
  have hout : ∀ q', q' = (un32 * 4294967296 + un1) / (y1 * 4294967296 + y0) →
      ((quoI .u64 (IntKind.u64.wrap ((IntKind.u64.wrap ((IntKind.u64.wrap ((un32 : Int) * 4294967296)) + (un1 : Int))) - (IntKind.u64.wrap ((q' : Int) * ((y1 * 4294967296 + y0 : Nat) : Int))))) (y1 : Int)).bind fun v_34 =>
      loopR (fun (z : (Int × Int × Int × Int × Int × Int × Int × Int × Int × Unit) × (Unit)) => bits_Div64_s2 z.1.1 z.1.2.1 z.1.2.2.1 z.1.2.2.2.1 z.1.2.2.2.2.1 z.1.2.2.2.2.2.1 z.1.2.2.2.2.2.2.1 z.1.2.2.2.2.2.2.2.1 z.1.2.2.2.2.2.2.2.2.1) ((((y1 * 4294967296 + y0 : Nat) : Int), (s : Int), (y1 : Int), (y0 : Int), (un0 : Int), (q' : Int),
        (IntKind.u64.wrap ((IntKind.u64.wrap ((IntKind.u64.wrap ((IntKind.u64.wrap ((un32 : Int) * 4294967296)) + (un1 : Int))) - (IntKind.u64.wrap ((q' : Int) * ((y1 * 4294967296 + y0 : Nat) : Int))))) - (IntKind.u64.wrap (v_34 * (y1 : Int))))),
        (IntKind.u64.wrap ((IntKind.u64.wrap ((IntKind.u64.wrap ((un32 : Int) * 4294967296)) + (un1 : Int))) - (IntKind.u64.wrap ((q' : Int) * ((y1 * 4294967296 + y0 : Nat) : Int))))), v_34, ()), ())) =
    some ((((((un32 * 4294967296 + un1) / (y1 * 4294967296 + y0)) * 4294967296 + ((un32 * 4294967296 + un1) % (y1 * 4294967296 + y0) * 4294967296 + un0) / (y1 * 4294967296 + y0) : Nat) : Int), ((((un32 * 4294967296 + un1) % (y1 * 4294967296 + y0) * 4294967296 + un0) % (y1 * 4294967296 + y0) / 2 ^ s : Nat) : Int), ()), ()) := by
    rintro _ rfl
    rw [rem_wrap hy hy2]
    exact div64_mid hs h0 hy1 hy1' hy0 hm hQ
  simp only
  unfold bits_Div64_s0
  simp only [gsome]
  by_cases hq : 4294967296 ≤ q
  · rw [decide_eq_true (show (q : Int) ≥ 4294967296 by omega), cond_true, cond_true]
    obtain ⟨p1, p2, p3, p4⟩ := k2 (.inl hq)
    have e1 : IntKind.u64.wrap ((q : Int) - 1) = ((q - 1 : Nat) : Int) := by rw [wrapu]; omega
    have e2 : IntKind.u64.wrap ((rh : Int) + (y1 : Int)) = ((rh + y1 : Nat) : Int) := by rw [wrapu]; omega
    rw [e1, e2]
    by_cases hr : 4294967296 ≤ rh + y1
    · left
      rw [decide_eq_true (show ((rh + y1 : Nat) : Int) ≥ 4294967296 by omega), cond_true, hout _ (p4 hr)]
      rfl
    · right
      rw [decide_eq_false (show ¬ ((rh + y1 : Nat) : Int) ≥ 4294967296 by omega), cond_false]
      refine ⟨_, rfl, ⟨q - 1, rh + y1, ⟨hD.hc, hD.hy1, hD.hy1', hD.hy0, hD.hu, by omega, p3, by omega, p2⟩, rfl⟩, ?_⟩
      simp only
      omega
  · rw [decide_eq_false (show ¬ (q : Int) ≥ 4294967296 by omega)]
    simp only [Bool.not_false, cond_true, cond_false]
    have hm1 : q * y0 ≤ 4294967295 * 4294967295 := Nat.mul_le_mul (by omega) (by omega)
    have e3 : IntKind.u64.wrap ((q : Int) * (y0 : Int)) = ((q * y0 : Nat) : Int) := by
      rw [show (q : Int) * (y0 : Int) = ((q * y0 : Nat) : Int) by simp, wu64 (by omega)]
    have e4 : IntKind.u64.wrap (4294967296 * (rh : Int)) = ((4294967296 * rh : Nat) : Int) := by
      rw [show 4294967296 * (rh : Int) = ((4294967296 * rh : Nat) : Int) by simp, wu64 (by omega)]
    have e5 : IntKind.u64.wrap (((4294967296 * rh : Nat) : Int) + (un1 : Int)) = ((4294967296 * rh + un1 : Nat) : Int) := by
      rw [show ((4294967296 * rh : Nat) : Int) + (un1 : Int) = ((4294967296 * rh + un1 : Nat) : Int) by simp, wu64 (by omega)]
    rw [e3, e4, e5]
    by_cases hc2 : 4294967296 * rh + un1 < q * y0
    · rw [decide_eq_true (show ((q * y0 : Nat) : Int) > ((4294967296 * rh + un1 : Nat) : Int) by omega), cond_true]
      obtain ⟨p1, p2, p3, p4⟩ := k2 (.inr hc2)
      have e1 : IntKind.u64.wrap ((q : Int) - 1) = ((q - 1 : Nat) : Int) := by rw [wrapu]; omega
      have e2 : IntKind.u64.wrap ((rh : Int) + (y1 : Int)) = ((rh + y1 : Nat) : Int) := by rw [wrapu]; omega
      rw [e1, e2]
      by_cases hr : 4294967296 ≤ rh + y1
      · left
        rw [decide_eq_true (show ((rh + y1 : Nat) : Int) ≥ 4294967296 by omega), cond_true, hout _ (p4 hr)]
        rfl
      · right
        rw [decide_eq_false (show ¬ ((rh + y1 : Nat) : Int) ≥ 4294967296 by omega), cond_false]
        refine ⟨_, rfl, ⟨q - 1, rh + y1, ⟨hD.hc, hD.hy1, hD.hy1', hD.hy0, hD.hu, by omega, p3, by omega, p2⟩, rfl⟩, ?_⟩
        simp only
        omega
    · left
      rw [decide_eq_false (show ¬ ((q * y0 : Nat) : Int) > ((4294967296 * rh + un1 : Nat) : Int) by omega), cond_false, hout q (k1 ⟨by omega, by omega⟩)]
      rfl

theorem or_add {a b s : Nat} (h : a % 2 ^ s = 0) (hb : b < 2 ^ s) (hab : a + b < 18446744073709551616) : bitsI .or .u64 (a : Int) (b : Int) = ((a + b : Nat) : Int) := by
  have key : (BitVec.ofInt 64 (a : Int) ||| BitVec.ofInt 64 (b : Int)).toNat = a + b := by
    rw [BitVec.toNat_or, BitVec.ofInt_natCast, BitVec.ofInt_natCast, BitVec.toNat_ofNat, BitVec.toNat_ofNat, Nat.mod_eq_of_lt (show a < 2 ^ 64 by omega), Nat.mod_eq_of_lt (show b < 2 ^ 64 by omega)]
    have := Nat.shiftLeft_add_eq_or_of_lt hb (a / 2 ^ s)
    rw [Nat.shiftLeft_eq, Nat.div_mul_cancel (Nat.dvd_of_mod_eq_zero h)] at this
    exact this.symm
  show IntKind.u64.wrap (((BitVec.ofInt 64 (a : Int) ||| BitVec.ofInt 64 (b : Int)).toNat : Nat) : Int) = _
  rw [key, wu64 hab]

/-- the long division of what was moved, and back -/
theorem div_moved {U y s Q0 Q1 u32 u21 R un1 un0 : Nat} (hy : 0 < y) (h1 : U * 2 ^ s = u32 * 18446744073709551616 + (un1 * 4294967296 + un0)) (h2 : y * 2 ^ s * Q1 + u21 = u32 * 4294967296 + un1) (h3 : y * 2 ^ s * Q0 + R = u21 * 4294967296 + un0) (h4 : R < y * 2 ^ s) :
    Q1 * 4294967296 + Q0 = U / y ∧ R / 2 ^ s = U % y := by
  have hp := Nat.two_pow_pos s
  have e : U * 2 ^ s = (Q1 * 4294967296 + Q0) * y * 2 ^ s + R := by
    have : (Q1 * 4294967296 + Q0) * y * 2 ^ s = y * 2 ^ s * Q1 * 4294967296 + y * 2 ^ s * Q0 := by
      rw [Nat.mul_assoc, Nat.add_mul, Nat.mul_comm Q0, Nat.mul_comm (Q1 * 4294967296), ← Nat.mul_assoc]
    rw [this, h1]
    generalize y * 2 ^ s * Q1 = p at *
    generalize y * 2 ^ s * Q0 = q at *
    omega
  obtain ⟨Q, hQ⟩ : ∃ Q, Q1 * 4294967296 + Q0 = Q := ⟨_, rfl⟩
  rw [hQ] at e ⊢
  have hle : Q * y ≤ U := by
    rcases Nat.lt_or_ge U (Q * y) with h | h
    · have := Nat.mul_lt_mul_of_pos_right h hp
      omega
    · exact h
  have hR : R = (U - Q * y) * 2 ^ s := by rw [Nat.sub_mul]; omega
  have hlt : U - Q * y < y := by
    rw [hR] at h4
    exact Nat.lt_of_mul_lt_mul_right h4
  have := (Nat.div_mod_unique (a := U) (c := U - Q * y) (d := Q) hy).2 ⟨by rw [Nat.mul_comm y Q]; omega, hlt⟩
  rw [hR, Nat.mul_div_cancel _ hp]
  exact ⟨this.1.symm, this.2.symm⟩

theorem bits_Div64_ok {hi lo y : Nat} (hlo : lo < 18446744073709551616) (hy : y < 18446744073709551616) (h : hi < y) :
    bits_Div64 (hi : Int) (lo : Int) (y : Int) = some (((((hi * 18446744073709551616 + lo) / y : Nat) : Int), (((hi * 18446744073709551616 + lo) % y : Nat) : Int), ()), ()) := by
  unfold bits_Div64
  rw [decide_eq_false (show ¬ (y : Int) = 0 by omega), cond_false, decide_eq_false (show ¬ (y : Int) ≤ hi by omega), cond_false]
  by_cases h0 : hi = 0
  · subst h0
    rw [decide_eq_true (show ((0 : Nat) : Int) = 0 from rfl), cond_true, Nat.zero_mul, Nat.zero_add]
    unfold quoI remI
    rw [if_neg (by omega), if_neg (by omega), Option.bind_some, Option.bind_some, Int.tdiv_eq_ediv_of_nonneg (by omega), Int.tmod_eq_emod_of_nonneg (by omega)]
    rw [show ((lo : Int) / (y : Int)) = ((lo / y : Nat) : Int) by simp, show ((lo : Int) % (y : Int)) = ((lo % y : Nat) : Int) by simp, wu64 (Nat.lt_of_le_of_lt (Nat.div_le_self _ _) hlo)]
  · rw [decide_eq_false (show ¬ (hi : Int) = 0 by omega), cond_false]
    obtain ⟨b1, b2⟩ := bitLen_spec y
    have hb : bitLen y ≤ 64 := bitLen_le hy
    have hb0 : 1 ≤ bitLen y := by
      rcases Nat.eq_zero_or_pos (bitLen y) with e | e
      · rw [e] at b1; omega
      · exact e
    obtain ⟨s, hs⟩ : ∃ s, bitLen y + s = 64 := ⟨64 - bitLen y, by omega⟩
    have hlz : bits_LeadingZeros64 (y : Int) = some (((s : Int), ()), ()) := by
      unfold bits_LeadingZeros64
      rw [bits_Len64_ok hy, Option.bind_some]
      dsimp only
      rw [wrap_i64 (by omega) (by omega)]
      congr 3
      omega
    rw [hlz, Option.bind_some]
    dsimp only
    rw [wu64 (show s < 18446744073709551616 by omega)]
    have hp := Nat.two_pow_pos s
    have h64 : (2 : Nat) ^ bitLen y * 2 ^ s = 18446744073709551616 := by rw [← Nat.pow_add, hs]
    -- the divisor, moved
    have hY : y * 2 ^ s < 18446744073709551616 := by rw [← h64]; exact Nat.mul_lt_mul_of_pos_right b1 hp
    have hY2 : 9223372036854775808 ≤ y * 2 ^ s := by
      have b2 := b2.resolve_left (by omega)
      have e : (2 : Nat) ^ (bitLen y - 1) * 2 ^ s = 9223372036854775808 := by rw [← Nat.pow_add, show bitLen y - 1 + s = 63 by omega]
      rw [← e]; exact Nat.mul_le_mul_right _ b2
    have hH : hi * 2 ^ s < y * 2 ^ s := Nat.mul_lt_mul_of_pos_right h hp
    rw [shl_ok, Option.bind_some, shl_ok, Option.bind_some]
    have w64 : IntKind.u64.wrap (64 - (s : Int)) = ((bitLen y : Nat) : Int) := by rw [wrapu]; omega
    rw [w64, shr_ok, Option.bind_some, shl_ok, Option.bind_some, Nat.min_eq_left (show s ≤ 64 by omega), Nat.min_eq_left hb, Nat.mod_eq_of_lt hY, Nat.mod_eq_of_lt (show hi * 2 ^ s < 18446744073709551616 by omega)]
    -- the dividend, moved
    have hlo1 : lo / 2 ^ bitLen y < 2 ^ s := (Nat.div_lt_iff_lt_mul (Nat.two_pow_pos _)).2 (by rw [Nat.mul_comm, h64]; exact hlo)
    have hsplit : lo * 2 ^ s = lo / 2 ^ bitLen y * 18446744073709551616 + lo * 2 ^ s % 18446744073709551616 := by
      have e1 : lo * 2 ^ s / 18446744073709551616 = lo / 2 ^ bitLen y := by rw [← h64, Nat.mul_div_mul_right _ _ hp]
      have := Nat.div_add_mod (lo * 2 ^ s) 18446744073709551616
      omega
    have hu : hi * 2 ^ s + lo / 2 ^ bitLen y < y * 2 ^ s := by
      have : (hi + 1) * 2 ^ s ≤ y * 2 ^ s := Nat.mul_le_mul_right _ h
      rw [Nat.add_mul, Nat.one_mul] at this
      omega
    have hor := or_add (a := hi * 2 ^ s) (b := lo / 2 ^ bitLen y) (s := s) (Nat.mul_mod_left _ _) hlo1 (by omega)
    rw [hor]
    have hN : (hi * 18446744073709551616 + lo) * 2 ^ s = (hi * 2 ^ s + lo / 2 ^ bitLen y) * 18446744073709551616 + lo * 2 ^ s % 18446744073709551616 := by
      rw [Nat.add_mul, Nat.mul_right_comm]; omega
    have hm64 := Nat.mod_lt (lo * 2 ^ s) (show 0 < 18446744073709551616 by omega)
    generalize hYd : y * 2 ^ s = Y at *
    generalize hi * 2 ^ s + lo / 2 ^ bitLen y = U32 at *
    generalize lo * 2 ^ s % 18446744073709551616 = U10 at *
    rw [and_mask hY, and_mask hm64]
    rw [show (Y : Int).fdiv (2 ^ 32) = ((Y / 4294967296 : Nat) : Int) from fdiv_pow Y 32, show (U10 : Int).fdiv (2 ^ 32) = ((U10 / 4294967296 : Nat) : Int) from fdiv_pow U10 32]
    have hYs : Y = Y / 4294967296 * 4294967296 + Y % 4294967296 := by omega
    have hq : quoI .u64 (U32 : Int) ((Y / 4294967296 : Nat) : Int) = some ((U32 / (Y / 4294967296) : Nat) : Int) := by
      unfold quoI
      rw [if_neg (by omega), Int.tdiv_eq_ediv_of_nonneg (by omega), show ((U32 : Int) / ((Y / 4294967296 : Nat) : Int)) = ((U32 / (Y / 4294967296) : Nat) : Int) from rfl, wu64 (Nat.lt_of_le_of_lt (Nat.div_le_self _ _) (by omega))]
    rw [hq, Option.bind_some]
    have hr : IntKind.u64.wrap ((U32 : Int) - IntKind.u64.wrap (((U32 / (Y / 4294967296) : Nat) : Int) * ((Y / 4294967296 : Nat) : Int))) = ((U32 % (Y / 4294967296) : Nat) : Int) := by
      have h1 := Nat.div_add_mod U32 (Y / 4294967296)
      have h2 := Nat.mod_lt U32 (show 0 < Y / 4294967296 by omega)
      rw [← Int.natCast_mul, Nat.mul_comm, wrapu, wrapu]
      generalize (Y / 4294967296) * (U32 / (Y / 4294967296)) = p at *
      generalize U32 % (Y / 4294967296) = r at *
      omega
    rw [hr]
    have key := div64_s0_ok (s := s) (y1 := Y / 4294967296) (y0 := Y % 4294967296) (un32 := U32) (un1 := U10 / 4294967296) (un0 := U10 % 4294967296) (by omega) (by omega)
      (Dig.init (by omega) (by omega) (by omega) (by omega) (by omega))
    rw [← hYs] at key
    rw [key]
    have hYp : 0 < Y := by omega
    obtain ⟨k1, k2⟩ := div_moved (U := hi * 18446744073709551616 + lo) (y := y) (s := s) (Q1 := (U32 * 4294967296 + U10 / 4294967296) / Y) (u32 := U32) (un1 := U10 / 4294967296) (un0 := U10 % 4294967296)
      (u21 := (U32 * 4294967296 + U10 / 4294967296) % Y) (Q0 := ((U32 * 4294967296 + U10 / 4294967296) % Y * 4294967296 + U10 % 4294967296) / Y) (R := ((U32 * 4294967296 + U10 / 4294967296) % Y * 4294967296 + U10 % 4294967296) % Y)
      (by omega) (by rw [hN]; omega) (by rw [hYd]; exact Nat.div_add_mod _ _) (by rw [hYd]; exact Nat.div_add_mod _ _) (by rw [hYd]; exact Nat.mod_lt _ hYp)
    rw [k1, k2]

theorem word_Div_ok {a d : Nat} (ha : a < 340282366920938463463374607431768211456) (hd : d < 18446744073709551616) (h0 : 0 < d) : word_Div (wp a) (d : Int) = some ((wp (a / d), ((a % d : Nat) : Int), true, ()), ()) := by
  unfold word_Div wp
  rw [decide_eq_false (show ¬ (d : Int) = 0 by omega), cond_false]
  simp only
  unfold quoI remI
  rw [if_neg (by omega), if_neg (by omega), Option.bind_some, Option.bind_some, Int.tdiv_eq_ediv_of_nonneg (by omega), Int.tmod_eq_emod_of_nonneg (by omega)]
  rw [show (((a / 18446744073709551616 : Nat) : Int) % (d : Int)) = ((a / 18446744073709551616 % d : Nat) : Int) from rfl, bits_Div64_ok (by omega) hd (Nat.mod_lt _ h0), Option.bind_some]
  rw [show (((a / 18446744073709551616 : Nat) : Int) / (d : Int)) = ((a / 18446744073709551616 / d : Nat) : Int) from rfl, wu64 (Nat.lt_of_le_of_lt (Nat.div_le_self _ _) (by omega))]
  have hs : a = a / 18446744073709551616 * 18446744073709551616 + a % 18446744073709551616 := by omega
  have hB : a % 18446744073709551616 < 18446744073709551616 := by omega
  generalize a / 18446744073709551616 = A at *
  generalize a % 18446744073709551616 = B at *
  have h1 := Nat.div_add_mod A d
  have h2 := Nat.mod_lt A h0
  have h3 := Nat.div_add_mod (A % d * 18446744073709551616 + B) d
  have h4 := Nat.mod_lt (A % d * 18446744073709551616 + B) h0
  have h5 : (A % d * 18446744073709551616 + B) / d < 18446744073709551616 := (Nat.div_lt_iff_lt_mul h0).2 (by
    have : (A % d + 1) * 18446744073709551616 ≤ d * 18446744073709551616 := Nat.mul_le_mul_right _ h2
    rw [Nat.mul_comm 18446744073709551616]
    omega)
  have hu := (Nat.div_mod_unique (a := a) (c := (A % d * 18446744073709551616 + B) % d) (d := A / d * 18446744073709551616 + (A % d * 18446744073709551616 + B) / d) h0).2 ⟨by
    rw [Nat.mul_add, ← Nat.mul_assoc]
    generalize d * (A / d) = p at *
    generalize d * ((A % d * 18446744073709551616 + B) / d) = q at *
    omega, h4⟩
  rw [hu.1, hu.2]
  obtain ⟨q, hq⟩ : ∃ q, (A % d * 18446744073709551616 + B) / d = q := ⟨_, rfl⟩
  rw [hq] at h5 ⊢
  obtain ⟨p, hp⟩ : ∃ p, A / d = p := ⟨_, rfl⟩
  rw [hp]
  refine congrArg some (Prod.ext (Prod.ext (Prod.ext ?_ (Prod.ext ?_ rfl)) rfl) rfl)
  · dsimp only
    clear hu h1 h2 h3 h4 hq hp hs
    omega
  · dsimp only
    clear hu h1 h2 h3 h4 hq hp hs
    omega

end Go.L

namespace Go.L
open Go Go.Pv
set_option maxRecDepth 100000

/-! ### lists by their places -/
def lrow {α : Type} (n : Nat) (f : Nat → α) : List α := (List.range n).map f

theorem lrow_len {α : Type} (n : Nat) (f : Nat → α) : (lrow n f).length = n := by simp [lrow]

theorem lrow_get {α : Type} {n : Nat} (f : Nat → α) {i : Nat} (h : i < n) : (lrow n f)[i]? = some (f i) := by simp [lrow, h]

theorem lrow_ext {α : Type} {n : Nat} {f g : Nat → α} (h : ∀ i, i < n → f i = g i) : lrow n f = lrow n g := by
  unfold lrow
  exact List.map_congr_left fun i hi => h i (List.mem_range.1 hi)

theorem lrow_rd {α : Type} {n : Nat} (f : Nat → α) {i : Nat} (h : i < n) : rdI (lrow n f) (i : Int) = some (f i) := by
  unfold rdI
  rw [if_pos (by omega)]
  simpa using lrow_get f h

theorem lrow_st {α : Type} {n : Nat} (f : Nat → α) {i : Nat} (h : i < n) (v : α) : stI (lrow n f) (i : Int) v = some (lrow n fun j => bif Nat.beq j i then v else f j) := by
  unfold stI
  rw [if_pos ⟨by omega, by rw [lrow_len]; simpa using h⟩]
  congr 1
  apply List.ext_getElem?
  intro j
  rw [List.getElem?_set, Int.toNat_natCast]
  by_cases hj : j < n
  · rw [lrow_get _ hj]
    by_cases e : i = j
    · subst e
      rw [if_pos rfl, if_pos (by rw [lrow_len]; exact hj), lrow_get _ hj, Nat.beq_refl]
      rfl
    · rw [if_neg e, lrow_get _ hj, nbeq (fun h => e h.symm)]
      rfl
  · have h1 : ∀ g : Nat → α, (lrow n g)[j]? = none := fun g => List.getElem?_eq_none (by rw [lrow_len]; omega)
    rw [h1, h1, if_neg (by omega)]

theorem lrow_of {α : Type} (l : List α) (d : α) : l = lrow l.length fun j => l.getD j d := by
  apply List.ext_getElem?
  intro j
  by_cases hj : j < l.length
  · rw [lrow_get _ hj]
    simp [List.getElem?_eq_getElem hj, List.getD]
  · rw [List.getElem?_eq_none (by omega), List.getElem?_eq_none (by rw [lrow_len]; omega)]

/-! ### digits -/
def D (b w : Nat) : List Nat := if h : b < 2 ∨ w / b = 0 then [w % b] else (w % b) :: D b (w / b)
  termination_by w
  decreasing_by
  have hb : 2 ≤ b := by omega
  have hw : w ≠ 0 := fun e => h (.inr (by rw [e]; simp))
  exact Nat.div_lt_self (by omega) (by omega)

theorem D_eq {b w : Nat} (hb : 2 ≤ b) : D b w = (w % b) :: (if w / b = 0 then [] else D b (w / b)) := by
  rw [D]
  by_cases h : w / b = 0
  · rw [dif_pos (.inr h), if_pos h]
  · rw [dif_neg (by omega), if_neg h]

theorem D_len {b : Nat} (hb : 2 ≤ b) : ∀ k w : Nat, w < 2 ^ (k + 1) → (D b w).length ≤ k + 1
  | 0, w, h => by
    rw [D_eq hb, if_pos (Nat.div_eq_of_lt (by omega))]
    simp
  | k + 1, w, h => by
    rw [D_eq hb]
    by_cases h0 : w / b = 0
    · rw [if_pos h0]; simp
    · rw [if_neg h0, List.length_cons]
      have : w / b < 2 ^ (k + 1) := by
        have h1 : w / b ≤ w / 2 := Nat.div_le_div_left hb (by omega)
        have h2 : w / 2 < 2 ^ (k + 1) := by rw [Nat.pow_succ] at h; omega
        omega
      have := D_len hb k (w / b) this
      omega

theorem D_lt {b : Nat} (hb : 2 ≤ b) (w : Nat) : ∀ d ∈ D b w, d < b := by
  induction w using Nat.strongRecOn with
  | _ w ih =>
    rw [D_eq hb]
    intro d hd
    rcases List.mem_cons.1 hd with rfl | hd
    · exact Nat.mod_lt _ (by omega)
    · by_cases h : w / b = 0
      · rw [if_pos h] at hd; cases hd
      · rw [if_neg h] at hd
        have hw : w ≠ 0 := by rintro rfl; simp at h
        exact ih _ (Nat.div_lt_self (by omega) (by omega)) d hd

/-- a digit's sign -/
def chr (d : Nat) : Int := if d < 10 then 48 + d else 87 + d

theorem hex_rd : ∀ d : Nat, d < 16 → rdI ([48, 49, 50, 51, 52, 53, 54, 55, 56, 57, 97, 98, 99, 100, 101, 102] : List Int) (d : Int) = some (chr d) := by
  have h : ∀ n : Fin 16, rdI ([48, 49, 50, 51, 52, 53, 54, 55, 56, 57, 97, 98, 99, 100, 101, 102] : List Int) ((n.val : Nat) : Int) = some (chr n.val) := by decide
  exact fun n hn => h ⟨n, hn⟩

/-- a word's text -/
def text (b w : Nat) : List Int := ((D b w).map chr).reverse

/-- what is left of a word, and the digits so far -/
def Sofar (b w0 w : Nat) (l : List Nat) : Prop := l ++ (if w = 0 ∧ l ≠ [] then [] else D b w) = D b w0

theorem Sofar.step {b w0 w : Nat} {l : List Nat} (hb : 2 ≤ b) (h : Sofar b w0 w l) (hc : ¬ (w = 0 ∧ l ≠ [])) : Sofar b w0 (w / b) (l ++ [w % b]) := by
  unfold Sofar at *
  rw [if_neg hc, D_eq hb] at h
  rw [← h, List.append_assoc]
  congr 1
  by_cases h0 : w / b = 0
  · rw [if_pos ⟨h0, by simp⟩, if_pos h0]; rfl
  · rw [if_neg (fun h => h0 h.1), if_neg h0]; rfl

theorem Sofar.len {b w0 w : Nat} {l : List Nat} (h : Sofar b w0 w l) : l.length ≤ (D b w0).length := by
  rw [← h, List.length_append]; omega

/-! ### the program's text -/
theorem rev_ok (l : List Int) (hl : l.length < 1000000) : loopR (fun (z : ((List Int) × Int × Int × Unit) × (Unit)) => word_Text_s2 z.1.1 z.1.2.1 z.1.2.2.1) ((l, (IntKind.i64.wrap ((l.length : Int).tdiv 2)), 0, ()), ()) = some ((l.reverse, ()), ()) := by
  have h2 : IntKind.i64.wrap ((l.length : Int).tdiv 2) = ((l.length / 2 : Nat) : Int) := by
    rw [Int.tdiv_eq_ediv_of_nonneg (by omega), wrap_i64 (by omega) (by omega)]; rfl
  rw [h2]
  generalize hn : l.length = n at *
  let g : Nat → Nat → Int := fun i j => if j < i ∨ n - i ≤ j then l.getD (n - 1 - j) 0 else l.getD j 0
  have key := loop_up (f := fun (z : ((List Int) × Int × Int × Unit) × (Unit)) => word_Text_s2 z.1.1 z.1.2.1 z.1.2.2.1) (fun i => ((lrow n (g i), ((n / 2 : Nat) : Int), (i : Int), ()), ())) (n / 2) (r := ((l.reverse, ()), ())) ?_ ?_ 0 (by omega)
  · have h0 : lrow n (g 0) = l := by
      have := lrow_of l (0 : Int)
      rw [hn] at this
      rw [this]
      refine lrow_ext fun i hi => ?_
      simp only [g]
      rw [if_neg (by omega)]
    rw [h0] at key
    exact key
  · intro i hi
    have hlen : (lrow n (g i)).length = n := lrow_len n (g i)
    simp only
    unfold word_Text_s2
    rw [decide_eq_true (show (i : Int) < ((n / 2 : Nat) : Int) by omega), cond_true]
    have e1 : IntKind.i64.wrap (IntKind.i64.wrap (((lrow n (g i)).length : Int) - 1) - (i : Int)) = ((n - 1 - i : Nat) : Int) := by
      rw [hlen, wrap_i64 (n := (n : Int) - 1) (by omega) (by omega), wrap_i64 (by omega) (by omega)]; omega
    simp only [e1]
    rw [hlen, ck_nat (show n - 1 - i < n by omega), lrow_rd _ (show n - 1 - i < n by omega), Option.bind_some, ck_nat (show i < n by omega), lrow_rd _ (show i < n by omega), Option.bind_some, ck_nat (show i < n by omega), lrow_st _ (show i < n by omega), Option.bind_some, lrow_len, ck_nat (show n - 1 - i < n by omega), lrow_st _ (show n - 1 - i < n by omega), Option.bind_some, wi64 (by omega)]
    congr 4
    refine lrow_ext fun j hj => ?_
    simp only [g]
    by_cases e2 : j = n - 1 - i
    · subst e2
      rw [Nat.beq_refl, cond_true, if_neg (by omega), if_pos (by omega), show n - 1 - (n - 1 - i) = i by omega]
    · rw [nbeq e2, cond_false]
      by_cases e3 : j = i
      · subst e3
        rw [Nat.beq_refl, cond_true, if_neg (by omega), if_pos (by omega)]
      · rw [nbeq e3, cond_false]
        by_cases h : j < i ∨ n - i ≤ j
        · rw [if_pos h, if_pos (by omega)]
        · rw [if_neg h, if_neg (by omega)]
  · simp only
    unfold word_Text_s2
    rw [decide_eq_false (show ¬ ((n / 2 : Nat) : Int) < ((n / 2 : Nat) : Int) by omega), cond_false]
    have : lrow n (g (n / 2)) = l.reverse := by
      have hr := lrow_of l.reverse (0 : Int)
      rw [List.length_reverse, hn] at hr
      rw [hr]
      refine lrow_ext fun j hj => ?_
      simp only [g]
      have hrv : l.reverse.getD j 0 = l.getD (n - 1 - j) 0 := by
        simp only [List.getD, List.getElem?_reverse (show j < l.length by omega), hn]
      rw [hrv]
      by_cases h : j < n / 2 ∨ n - n / 2 ≤ j
      · rw [if_pos h]
      · rw [if_neg h, show n - 1 - j = j by omega]
    rw [this]

theorem word_Text_ok {w b : Nat} (hw : w < 340282366920938463463374607431768211456) (hb : 2 ≤ b) (hb2 : b ≤ 16) : word_Text (wp w) (b : Int) = some ((text b w, ()), ()) := by
  unfold word_Text word_based
  have hlen := D_len hb 127 w hw
  simp only [decide_eq_true (show (b : Int) ≥ 2 by omega), gsome, cond_true, Option.bind_some, decide_eq_true (show (b : Int) ≤ 16 by omega), Bool.not_true, cond_false]
  refine loop_meas (fun z => ∃ w' l, w' ≤ w ∧ Sofar b w w' l ∧ z = (((b : Int), l.map chr, ()), wp w', ())) (fun z => (z.2.1.1.toNat * 18446744073709551616 + z.2.1.2.1.toNat) + (if z.1.2.1 = [] then 1 else 0)) ?_ ⟨w, [], Nat.le_refl _, by unfold Sofar; rw [if_neg (by simp)]; rfl, rfl⟩
  rintro _ ⟨w', l, hle, hS, rfl⟩
  have hl := hS.len
  simp only
  unfold word_Text_s0
  have hz : (decide ((wp w').1 = 0) && decide ((wp w').2.1 = 0)) = decide (w' = 0) := by
    unfold wp
    simp only
    by_cases h : w' = 0
    · subst h; rfl
    · rw [decide_eq_false h]
      by_cases h1 : ((w' / 18446744073709551616 : Nat) : Int) = 0
      · rw [decide_eq_true h1, decide_eq_false (by omega)]; rfl
      · rw [decide_eq_false h1]; rfl
  have hd := word_Div_ok (a := w') (d := b) (by omega) (by omega) (by omega)
  have hdm := Nat.mod_lt w' (show 0 < b by omega)
  have hstep : (word_Div ((wp w').1, (wp w').2.1, ()) (IntKind.u64.wrap (b : Int))).bind (fun r_7 =>
    (rdI ([48, 49, 50, 51, 52, 53, 54, 55, 56, 57, 97, 98, 99, 100, 101, 102] : List Int) r_7.1.2.1).bind fun v_8 =>
    (roomI 1 (l.map chr) [v_8]).bind fun v_9 =>
    (some (.inl (((b : Int), v_9, ()), r_7.1.1, ())) : Option (((Int × (List Int) × Unit) × ((Int × Int × Unit) × Unit)) ⊕ (((List Int) × Unit) × (Unit))))) = some (.inl (((b : Int), (l ++ [w' % b]).map chr, ()), wp (w' / b), ())) := by
    rw [wu64 (by omega), show word_Div ((wp w').1, (wp w').2.1, ()) (b : Int) = _ from hd, Option.bind_some]
    dsimp only
    rw [hex_rd _ (by omega), Option.bind_some]
    unfold roomI
    rw [if_pos (by simp; omega), Option.bind_some, List.map_append]
    rfl
  have hmeas : ∀ c : Nat, (wp c).1.toNat * 18446744073709551616 + (wp c).2.1.toNat = c := fun c => by unfold wp; simp only [Int.toNat_natCast]; omega
  simp only [hz, gsome]
  by_cases h : w' = 0 ∧ l ≠ []
  · left
    obtain ⟨rfl, h2⟩ := h
    have hne : ¬ ((l.map chr).length : Int) = 0 := by
      cases l with
      | nil => exact absurd rfl h2
      | cons x l => simp; omega
    simp only [decide_true, Bool.not_true, Bool.not_false, cond_true, cond_false, decide_eq_false hne]
    rw [rev_ok _ (by simp; omega)]
    have : l = D b w := by
      have := hS
      unfold Sofar at this
      rw [if_pos ⟨rfl, h2⟩, List.append_nil] at this
      exact this
    rw [this]
    rfl
  · right
    have hc : (bif !decide (w' = 0) then true else (bif !!decide (w' = 0) then decide ((bif !!decide (w' = 0) then ((l.map chr).length : Int) else 0) = 0) else false)) = true := by
      by_cases h1 : w' = 0
      · have h2 : l = [] := Classical.byContradiction fun h2 => h ⟨h1, h2⟩
        subst h2
        rw [decide_eq_true h1]
        rfl
      · rw [decide_eq_false h1]
        rfl
    rw [hc, cond_true, hstep]
    refine ⟨_, rfl, ⟨w' / b, l ++ [w' % b], Nat.le_trans (Nat.div_le_self _ _) hle, hS.step hb h, rfl⟩, ?_⟩
    simp only [hmeas]
    rw [if_neg (by simp)]
    by_cases h1 : w' = 0
    · have h2 : l = [] := Classical.byContradiction fun h2 => h ⟨h1, h2⟩
      subst h1; subst h2
      simp
    · have := Nat.div_lt_self (show 0 < w' by omega) (show 1 < b by omega)
      omega

/-! ### the reference's text -/
theorem ref01_Text_ok {w b : Nat} (hw : w < 340282366920938463463374607431768211456) (hb : 2 ≤ b) (hb2 : b ≤ 16) : ref01_Text (rowB (BitVec.ofNat 128 w)) (b : Int) = some ((text b w, ()), ()) := by
  unfold ref01_Text
  have hlen := D_len hb 127 w hw
  refine loop_meas (fun z => ∃ w' l, w' ≤ w ∧ Sofar b w w' l ∧ z = (((b : Int), (l.map chr).reverse, ()), rowB (BitVec.ofNat 128 w'), ())) (fun z => 129 - z.1.2.1.length) ?_ ⟨w, [], Nat.le_refl _, by unfold Sofar; rw [if_neg (by simp)]; rfl, rfl⟩
  rintro _ ⟨w', l, hle, hS, rfl⟩
  have hl := hS.len
  have hw' : w' < 2 ^ 128 := by omega
  simp only
  unfold ref01_Text_s0
  rw [ref01_Len_ok, BitVec.toNat_ofNat, Nat.mod_eq_of_lt hw', Option.bind_some]
  have hlz : decide (((bitLen w' : Nat) : Int) > 0) = !decide (w' = 0) := by
    by_cases h : w' = 0
    · subst h; rfl
    · rw [decide_eq_false h, decide_eq_true]
      · rfl
      · unfold bitLen; rw [if_neg h]; omega
  simp only [hlz, gsome]
  have hdm := Nat.mod_lt w' (show 0 < b by omega)
  have hstep : (ref01_small (b : Int)).bind (fun r_5 => (ref01_Part (rowB (BitVec.ofNat 128 w')) r_5.1.1).bind fun r_6 => (ref01_Halves r_6.1.2.1).bind fun r_7 =>
    (subL ([48, 49, 50, 51, 52, 53, 54, 55, 56, 57, 97, 98, 99, 100, 101, 102] : List Int) r_7.1.2.1 (IntKind.u64.wrap (r_7.1.2.1 + 1))).bind fun v_9 => (catI v_9 (l.map chr).reverse).bind fun v_10 =>
    (some (.inl (((b : Int), v_10, ()), r_6.1.1, ())) : Option (((Int × (List Int) × Unit) × ((List Bool) × Unit)) ⊕ (((List Int) × Unit) × (Unit))))) = some (.inl (((b : Int), ((l ++ [w' % b]).map chr).reverse, ()), rowB (BitVec.ofNat 128 (w' / b)), ())) := by
    rw [ref01_small_ok (by omega), Option.bind_some]
    dsimp only
    rw [ref01_Part_ok _ _ (by rw [BitVec.toNat_ofNat]; omega), Option.bind_some]
    dsimp only
    rw [BitVec.toNat_ofNat, BitVec.toNat_ofNat, Nat.mod_eq_of_lt hw', Nat.mod_eq_of_lt (show b < 2 ^ 128 by omega)]
    have hh := ref01_Halves_ok (hi := 0) (lo := w' % b) (by omega) (by omega)
    have hwd : wd 0 (w' % b) = BitVec.ofNat 128 (w' % b) := by simp [wd]
    rw [hwd] at hh
    rw [hh, Option.bind_some]
    dsimp only
    have hsub : subL ([48, 49, 50, 51, 52, 53, 54, 55, 56, 57, 97, 98, 99, 100, 101, 102] : List Int) ((w' % b : Nat) : Int) (IntKind.u64.wrap (((w' % b : Nat) : Int) + 1)) = some [chr (w' % b)] := by
      have : ∀ n : Fin 16, subL ([48, 49, 50, 51, 52, 53, 54, 55, 56, 57, 97, 98, 99, 100, 101, 102] : List Int) ((n.val : Nat) : Int) (IntKind.u64.wrap (((n.val : Nat) : Int) + 1)) = some [chr n.val] := by decide
      exact this ⟨w' % b, by omega⟩
    rw [hsub, Option.bind_some]
    unfold catI
    rw [if_pos (by simp; omega), Option.bind_some, List.map_append, List.reverse_append]
    rfl
  by_cases h : w' = 0 ∧ l ≠ []
  · left
    obtain ⟨rfl, h2⟩ := h
    have hne : ¬ (l.map chr).reverse = [] := by simpa using h2
    simp only [decide_true, Bool.not_true, Bool.not_false, cond_true, cond_false, decide_eq_false hne]
    have : l = D b w := by
      have := hS
      unfold Sofar at this
      rw [if_pos ⟨rfl, h2⟩, List.append_nil] at this
      exact this
    rw [this]
    rfl
  · right
    have hc : (bif !decide (w' = 0) then true else (bif !!decide (w' = 0) then decide ((l.map chr).reverse = []) else false)) = true := by
      by_cases h1 : w' = 0
      · have h2 : l = [] := Classical.byContradiction fun h2 => h ⟨h1, h2⟩
        subst h2
        rw [decide_eq_true h1]
        rfl
      · rw [decide_eq_false h1]
        rfl
    rw [hc, cond_true, hstep]
    refine ⟨_, rfl, ⟨w' / b, l ++ [w' % b], Nat.le_trans (Nat.div_le_self _ _) hle, hS.step hb h, rfl⟩, ?_⟩
    have := (hS.step hb h).len
    simp only [List.length_reverse, List.length_map, List.length_append, List.length_singleton] at this ⊢
    omega

end Go.L

namespace Go.L
open Go Go.Pv
set_option maxRecDepth 100000

/-! ### bit by bit -/
theorem u64_bv {z : Nat} (hz : z < 18446744073709551616) {b : BitVec 64} (h : ∀ i, i < 64 → b.getLsbD i = z.testBit i) : IntKind.u64.wrap (b.toNat : Int) = (z : Int) := by
  have : b = BitVec.ofNat 64 z := by
    apply BitVec.eq_of_getLsbD_eq
    intro i hi
    rw [h i hi, BitVec.getLsbD_ofNat]
    simp [hi]
  rw [this, BitVec.toNat_ofNat, Nat.mod_eq_of_lt (show z < 2 ^ 64 by omega), wu64 hz]

theorem and64 {x y : Nat} (hx : x < 18446744073709551616) (hy : y < 18446744073709551616) : bitsI .and .u64 (x : Int) (y : Int) = ((x &&& y : Nat) : Int) := by
  change IntKind.u64.wrap ((BitVec.ofInt 64 (x : Int) &&& BitVec.ofInt 64 (y : Int)).toNat : Int) = _
  rw [BitVec.ofInt_natCast, BitVec.ofInt_natCast]
  exact u64_bv (Nat.and_lt_two_pow (n := 64) x hy) fun i hi => by simp only [BitVec.getLsbD_and, BitVec.getLsbD_or, BitVec.getLsbD_xor, BitVec.getLsbD_ofNat, hi, decide_true, Bool.true_and, Nat.testBit_and, Nat.testBit_or, Nat.testBit_xor]

theorem or64 {x y : Nat} (hx : x < 18446744073709551616) (hy : y < 18446744073709551616) : bitsI .or .u64 (x : Int) (y : Int) = ((x ||| y : Nat) : Int) := by
  change IntKind.u64.wrap ((BitVec.ofInt 64 (x : Int) ||| BitVec.ofInt 64 (y : Int)).toNat : Int) = _
  rw [BitVec.ofInt_natCast, BitVec.ofInt_natCast]
  exact u64_bv (Nat.or_lt_two_pow (n := 64) hx hy) fun i hi => by simp only [BitVec.getLsbD_and, BitVec.getLsbD_or, BitVec.getLsbD_xor, BitVec.getLsbD_ofNat, hi, decide_true, Bool.true_and, Nat.testBit_and, Nat.testBit_or, Nat.testBit_xor]

theorem xor64 {x y : Nat} (hx : x < 18446744073709551616) (hy : y < 18446744073709551616) : bitsI .xor .u64 (x : Int) (y : Int) = ((x ^^^ y : Nat) : Int) := by
  change IntKind.u64.wrap ((BitVec.ofInt 64 (x : Int) ^^^ BitVec.ofInt 64 (y : Int)).toNat : Int) = _
  rw [BitVec.ofInt_natCast, BitVec.ofInt_natCast]
  exact u64_bv (Nat.xor_lt_two_pow (n := 64) hx hy) fun i hi => by simp only [BitVec.getLsbD_and, BitVec.getLsbD_or, BitVec.getLsbD_xor, BitVec.getLsbD_ofNat, hi, decide_true, Bool.true_and, Nat.testBit_and, Nat.testBit_or, Nat.testBit_xor]

/-- a number made of two halves -/
theorem wp_half (f : Bool → Bool → Bool) (hf : f false false = false) (g : Nat → Nat → Nat) (hg : ∀ x y i, (g x y).testBit i = f (x.testBit i) (y.testBit i)) (a b : Nat) :
    g a b / 18446744073709551616 = g (a / 18446744073709551616) (b / 18446744073709551616) ∧ g a b % 18446744073709551616 = g (a % 18446744073709551616) (b % 18446744073709551616) := by
  constructor
  · apply Nat.eq_of_testBit_eq
    intro i
    rw [show 18446744073709551616 = 2 ^ 64 from rfl, Nat.testBit_div_two_pow, hg, hg, Nat.testBit_div_two_pow, Nat.testBit_div_two_pow]
  · apply Nat.eq_of_testBit_eq
    intro i
    rw [show 18446744073709551616 = 2 ^ 64 from rfl, Nat.testBit_mod_two_pow, hg, hg, Nat.testBit_mod_two_pow, Nat.testBit_mod_two_pow]
    by_cases h : i < 64
    · simp [h]
    · simp [h, hf]

theorem word_And_ok {a b : Nat} (ha : a < 340282366920938463463374607431768211456) (hb : b < 340282366920938463463374607431768211456) : word_And (wp a) (wp b) = some ((wp (a &&& b), ()), ()) := by
  obtain ⟨h1, h2⟩ := wp_half and rfl (· &&& ·) (fun x y i => Nat.testBit_and x y i) a b
  unfold word_And wp
  dsimp only
  rw [and64 (by omega) (by omega), and64 (by omega) (by omega)]
  rw [h1, h2]

theorem word_Or_ok {a b : Nat} (ha : a < 340282366920938463463374607431768211456) (hb : b < 340282366920938463463374607431768211456) : word_Or (wp a) (wp b) = some ((wp (a ||| b), ()), ()) := by
  obtain ⟨h1, h2⟩ := wp_half or rfl (· ||| ·) (fun x y i => Nat.testBit_or x y i) a b
  unfold word_Or wp
  dsimp only
  rw [or64 (by omega) (by omega), or64 (by omega) (by omega)]
  rw [h1, h2]

theorem word_Xor_ok {a b : Nat} (ha : a < 340282366920938463463374607431768211456) (hb : b < 340282366920938463463374607431768211456) : word_Xor (wp a) (wp b) = some ((wp (a ^^^ b), ()), ()) := by
  obtain ⟨h1, h2⟩ := wp_half xor rfl (· ^^^ ·) (fun x y i => Nat.testBit_xor x y i) a b
  unfold word_Xor wp
  dsimp only
  rw [xor64 (by omega) (by omega), xor64 (by omega) (by omega)]
  rw [h1, h2]

theorem not64 {x : Nat} (hx : x < 18446744073709551616) : bitsI .xor .u64 IntKind.u64.max (x : Int) = ((18446744073709551615 - x : Nat) : Int) := by
  have hm : IntKind.u64.max = ((18446744073709551615 : Nat) : Int) := by decide
  rw [hm, xor64 (by omega) hx]
  congr 1
  apply Nat.eq_of_testBit_eq
  intro i
  rw [Nat.testBit_xor]
  have h := Nat.testBit_two_pow_sub_succ (n := 64) (x := x) (by omega) i
  rw [show 2 ^ 64 - (x + 1) = 18446744073709551615 - x by omega] at h
  rw [h]
  have h2 := Nat.testBit_two_pow_sub_one 64 i
  rw [show 2 ^ 64 - 1 = 18446744073709551615 from rfl] at h2
  rw [h2]
  by_cases hi : i < 64
  · simp [hi]
  · simp [hi]
    exact Nat.testBit_lt_two_pow (Nat.lt_of_lt_of_le hx (by rw [show 18446744073709551616 = 2 ^ 64 from rfl]; exact Nat.pow_le_pow_right (by omega) (by omega)))

theorem word_Not_ok {a : Nat} (ha : a < 340282366920938463463374607431768211456) : word_Not (wp a) = some ((wp (340282366920938463463374607431768211455 - a), ()), ()) := by
  unfold word_Not wp
  dsimp only
  rw [not64 (by omega), not64 (by omega)]
  refine congrArg some (Prod.ext (Prod.ext (Prod.ext ?_ (Prod.ext ?_ rfl)) rfl) rfl)
  · dsimp only; omega
  · dsimp only; omega

/-! ### moved -/
theorem shl64 {n k : Nat} (hk : k ≤ 64) : shlI .u64 (n : Int) (k : Int) = some (((n * 2 ^ k % 18446744073709551616 : Nat) : Int)) := by rw [shl_ok, Nat.min_eq_left hk]
theorem shr64 {n k : Nat} (hk : k ≤ 64) : shrI .u64 (n : Int) (k : Int) = some (((n / 2 ^ k : Nat) : Int)) := by rw [shr_ok, Nat.min_eq_left hk]

theorem pow_split {n : Nat} (h : n ≤ 64) : 2 ^ n * 2 ^ (64 - n) = 18446744073709551616 := by rw [← Nat.pow_add, show n + (64 - n) = 64 by omega]

theorem mod_div_pow (lo n : Nat) (h : n ≤ 64) (hlo : lo < 18446744073709551616) : lo * 2 ^ n / 18446744073709551616 = lo / 2 ^ (64 - n) := by
  rw [← pow_split h, Nat.mul_comm (2 ^ n), Nat.mul_div_mul_right _ _ (Nat.two_pow_pos n)]

theorem shl_g_ok {F G : (Int × Int × Unit) → Int → Option (((Int × Int × Unit) × Unit) × (Unit))} {a n : Nat} (ha : a < 340282366920938463463374607431768211456) : word_Shl_g F G (wp a) (n : Int) = some ((wp (if n < 128 then a * 2 ^ n % 340282366920938463463374607431768211456 else 0), ()), ()) := by
  unfold word_Shl_g
  have hpa : ((wp a).1, (wp a).2.1, ()) = wp a := rfl
  simp only [gsome, decide_eq_false (show ¬ (n : Int) ≤ -128 by omega), Bool.not_false, cond_true, cond_false, decide_eq_false (show ¬ (n : Int) < 0 by omega)]
  by_cases h128 : n < 128
  · rw [decide_eq_false (show ¬ (n : Int) ≥ 128 by omega), cond_false, if_pos h128]
    by_cases h0 : n = 0
    · subst h0
      rw [decide_eq_true (show ((0 : Nat) : Int) = 0 from rfl), cond_true, Nat.pow_zero, Nat.mul_one, Nat.mod_eq_of_lt ha]
    · rw [decide_eq_false (show ¬ (n : Int) = 0 by omega), cond_false]
      by_cases h64 : 64 ≤ n
      · rw [decide_eq_true (show (n : Int) ≥ 64 by omega), cond_true, show IntKind.i64.wrap ((n : Int) - 64) = ((n - 64 : Nat) : Int) by rw [wrap_i64 (by omega) (by omega)]; omega]
        unfold wp
        dsimp only
        rw [shl64 (by omega), Option.bind_some]
        have e : a * 2 ^ n = a * 2 ^ (n - 64) * 18446744073709551616 := by
          rw [show 18446744073709551616 = 2 ^ 64 from rfl, Nat.mul_assoc, ← Nat.pow_add, Nat.sub_add_cancel h64]
        rw [e]
        have e2 : a % 18446744073709551616 * 2 ^ (n - 64) % 18446744073709551616 = a * 2 ^ (n - 64) % 18446744073709551616 := Nat.mod_mul_mod a (2 ^ (n - 64)) 18446744073709551616
        rw [e2]
        generalize a * 2 ^ (n - 64) = m
        refine congrArg some (Prod.ext (Prod.ext (Prod.ext ?_ (Prod.ext ?_ rfl)) rfl) rfl)
        · dsimp only; first | done | omega
        · dsimp only; first | done | omega
      · rw [decide_eq_false (show ¬ (n : Int) ≥ 64 by omega), cond_false, show IntKind.i64.wrap (64 - (n : Int)) = ((64 - n : Nat) : Int) by rw [wrap_i64 (by omega) (by omega)]; omega]
        unfold wp
        dsimp only
        rw [shl64 (by omega), Option.bind_some, shr64 (by omega), Option.bind_some, shl64 (by omega), Option.bind_some]
        have hlo : a % 18446744073709551616 < 18446744073709551616 := Nat.mod_lt _ (by omega)
        have hs : a * 2 ^ n = a / 18446744073709551616 * 2 ^ n * 18446744073709551616 + a % 18446744073709551616 * 2 ^ n := by
          have : a = a / 18446744073709551616 * 18446744073709551616 + a % 18446744073709551616 := by omega
          rw [show a * 2 ^ n = (a / 18446744073709551616 * 18446744073709551616 + a % 18446744073709551616) * 2 ^ n by rw [← this], Nat.add_mul, Nat.mul_right_comm]
        have hd := mod_div_pow (a % 18446744073709551616) n (by omega) hlo
        have hlt : a % 18446744073709551616 / 2 ^ (64 - n) < 2 ^ n := by
          refine (Nat.div_lt_iff_lt_mul (Nat.two_pow_pos _)).2 ?_
          rw [pow_split (by omega)]; exact hlo
        have hmz : a / 18446744073709551616 * 2 ^ n % 18446744073709551616 % 2 ^ n = 0 := by
          rw [← pow_split (show n ≤ 64 by omega), Nat.mod_mul_right_mod, Nat.mul_mod_left]
        have hle : a / 18446744073709551616 * 2 ^ n % 18446744073709551616 + a % 18446744073709551616 / 2 ^ (64 - n) < 18446744073709551616 := by
          have h1 : a / 18446744073709551616 * 2 ^ n % 18446744073709551616 = 2 ^ n * (a / 18446744073709551616 % 2 ^ (64 - n)) := by
            rw [← pow_split (show n ≤ 64 by omega), Nat.mul_comm (a / (2 ^ n * 2 ^ (64 - n))) (2 ^ n), Nat.mul_mod_mul_left]
          have h2 : a / 18446744073709551616 % 2 ^ (64 - n) + 1 ≤ 2 ^ (64 - n) := Nat.mod_lt _ (Nat.two_pow_pos _)
          have h3 := Nat.mul_le_mul_left (2 ^ n) h2
          rw [pow_split (by omega), Nat.mul_add, Nat.mul_one, ← h1] at h3
          omega
        rw [or_add hmz hlt hle, hs, ← hd]
        generalize a / 18446744073709551616 * 2 ^ n = p at *
        generalize a % 18446744073709551616 * 2 ^ n = q at *
        clear hmz hlt hs hpa
        refine congrArg some (Prod.ext (Prod.ext (Prod.ext ?_ (Prod.ext ?_ rfl)) rfl) rfl)
        · dsimp only; omega
        · dsimp only; omega
  · rw [decide_eq_true (show (n : Int) ≥ 128 by omega), cond_true, if_neg h128]
    rfl

theorem shr_g_ok {F G : (Int × Int × Unit) → Int → Option (((Int × Int × Unit) × Unit) × (Unit))} {a n : Nat} (ha : a < 340282366920938463463374607431768211456) : word_Shr_g F G (wp a) (n : Int) = some ((wp (a / 2 ^ n), ()), ()) := by
  unfold word_Shr_g
  simp only [gsome, decide_eq_false (show ¬ (n : Int) ≤ -128 by omega), Bool.not_false, cond_true, cond_false, decide_eq_false (show ¬ (n : Int) < 0 by omega)]
  by_cases h128 : n < 128
  · rw [decide_eq_false (show ¬ (n : Int) ≥ 128 by omega), cond_false]
    by_cases h0 : n = 0
    · subst h0
      rw [decide_eq_true (show ((0 : Nat) : Int) = 0 from rfl), cond_true, Nat.pow_zero, Nat.div_one]
    · rw [decide_eq_false (show ¬ (n : Int) = 0 by omega), cond_false]
      by_cases h64 : 64 ≤ n
      · rw [decide_eq_true (show (n : Int) ≥ 64 by omega), cond_true, show IntKind.i64.wrap ((n : Int) - 64) = ((n - 64 : Nat) : Int) by rw [wrap_i64 (by omega) (by omega)]; omega]
        unfold wp
        dsimp only
        rw [shr64 (by omega), Option.bind_some]
        have e : a / 2 ^ n = a / 18446744073709551616 / 2 ^ (n - 64) := by
          rw [show 18446744073709551616 = 2 ^ 64 from rfl, Nat.div_div_eq_div_mul, ← Nat.pow_add, show 64 + (n - 64) = n by omega]
        have hlt : a / 2 ^ n < 18446744073709551616 := by rw [e]; exact Nat.lt_of_le_of_lt (Nat.div_le_self _ _) (by omega)
        rw [← e]
        generalize a / 2 ^ n = m at *
        refine congrArg some (Prod.ext (Prod.ext (Prod.ext ?_ (Prod.ext ?_ rfl)) rfl) rfl)
        · dsimp only; first | done | omega
        · dsimp only; first | done | omega
      · rw [decide_eq_false (show ¬ (n : Int) ≥ 64 by omega), cond_false, show IntKind.i64.wrap (64 - (n : Int)) = ((64 - n : Nat) : Int) by rw [wrap_i64 (by omega) (by omega)]; omega]
        unfold wp
        dsimp only
        rw [shr64 (by omega), Option.bind_some, shr64 (by omega), Option.bind_some, shl64 (by omega), Option.bind_some]
        have hp := Nat.two_pow_pos n
        have hq := Nat.two_pow_pos (64 - n)
        have hsp := pow_split (show n ≤ 64 by omega)
        have hl1 : a % 18446744073709551616 / 2 ^ n < 2 ^ (64 - n) := (Nat.div_lt_iff_lt_mul hp).2 (by rw [Nat.mul_comm, hsp]; exact Nat.mod_lt _ (by omega))
        have hm : a / 18446744073709551616 * 2 ^ (64 - n) % 18446744073709551616 = 2 ^ (64 - n) * (a / 18446744073709551616 % 2 ^ n) := by
          rw [← hsp, Nat.mul_comm (2 ^ n), Nat.mul_comm (a / (2 ^ (64 - n) * 2 ^ n)), Nat.mul_mod_mul_left]
        have hsum : 2 ^ (64 - n) * (a / 18446744073709551616 % 2 ^ n) + a % 18446744073709551616 / 2 ^ n < 18446744073709551616 := by
          have h2 : a / 18446744073709551616 % 2 ^ n + 1 ≤ 2 ^ n := Nat.mod_lt _ hp
          have h3 := Nat.mul_le_mul_left (2 ^ (64 - n)) h2
          rw [Nat.mul_comm (2 ^ (64 - n)) (2 ^ n), hsp, Nat.mul_add, Nat.mul_one] at h3
          omega
        have hor : bitsI .or .u64 ((a % 18446744073709551616 / 2 ^ n : Nat) : Int) ((a / 18446744073709551616 * 2 ^ (64 - n) % 18446744073709551616 : Nat) : Int) = ((2 ^ (64 - n) * (a / 18446744073709551616 % 2 ^ n) + a % 18446744073709551616 / 2 ^ n : Nat) : Int) := by
          rw [hm]
          have := or_add (a := 2 ^ (64 - n) * (a / 18446744073709551616 % 2 ^ n)) (b := a % 18446744073709551616 / 2 ^ n) (s := 64 - n) (Nat.mul_mod_right _ _) hl1 hsum
          rw [← this, or64 (by omega) (by omega), or64 (by omega) (by omega), Nat.or_comm]
        rw [hor]
        have hval : a / 2 ^ n = a / 18446744073709551616 / 2 ^ n * 18446744073709551616 + (2 ^ (64 - n) * (a / 18446744073709551616 % 2 ^ n) + a % 18446744073709551616 / 2 ^ n) := by
          have h1 : a = 18446744073709551616 * (a / 18446744073709551616) + a % 18446744073709551616 := by omega
          have h2 := Nat.div_add_mod (a / 18446744073709551616) (2 ^ n)
          have h3 := Nat.div_add_mod (a % 18446744073709551616) (2 ^ n)
          have hr := Nat.mod_lt (a % 18446744073709551616) hp
          refine ((Nat.div_mod_unique (a := a) (c := a % 18446744073709551616 % 2 ^ n) hp).2 ⟨?_, hr⟩).1
          generalize a / 18446744073709551616 = A at *
          generalize a % 18446744073709551616 = B at *
          rw [Nat.mul_add, Nat.mul_add, ← Nat.mul_assoc (2 ^ n) (2 ^ (64 - n)), hsp, ← Nat.mul_assoc]
          generalize 2 ^ n * (A / 2 ^ n) = p at *
          generalize 2 ^ n * (B / 2 ^ n) = q at *
          omega
        rw [hval]
        generalize 2 ^ (64 - n) * (a / 18446744073709551616 % 2 ^ n) + a % 18446744073709551616 / 2 ^ n = q at *
        generalize a / 18446744073709551616 / 2 ^ n = p at *
        clear hor hm hval hl1 hsp
        refine congrArg some (Prod.ext (Prod.ext (Prod.ext ?_ (Prod.ext ?_ rfl)) rfl) rfl)
        · dsimp only; omega
        · dsimp only; omega
  · rw [decide_eq_true (show (n : Int) ≥ 128 by omega), cond_true, Nat.div_eq_of_lt (Nat.lt_of_lt_of_le ha (by rw [show 340282366920938463463374607431768211456 = 2 ^ 128 from rfl]; exact Nat.pow_le_pow_right (by omega) (by omega)))]
    rfl

/-- moved by n places: up, or down -/
def moved (a : Nat) (n : Int) : Nat := if 0 ≤ n then (if n < 128 then a * 2 ^ n.toNat % 340282366920938463463374607431768211456 else 0) else a / 2 ^ (-n).toNat

end Go.L
