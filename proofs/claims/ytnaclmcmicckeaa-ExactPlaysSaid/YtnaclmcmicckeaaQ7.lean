/- The functions that the statements reach as plain Lean, and what they compute. -/
import Derived.Test.YtnaclmcmicckeaaQ6

set_option linter.unusedSimpArgs false
set_option linter.unusedVariables false

namespace Go.L
open Go Go.Pv
set_option maxRecDepth 100000

/-! ### shunter/wire.put -/
noncomputable def wire_put_s0 (n_1_0 : Int) (size_2_0 : Int) (out_7_0 : List Int) (t12_12_0 : Int) (t13_13_0 : Int) : Option (((Int × Int × (List Int) × Int × Int × Unit) × (Unit)) ⊕ (((List Int) × Unit) × (Unit))) :=
  bif (decide (t13_13_0 < t12_12_0)) then
    (shrI .i64 n_1_0 (IntKind.i64.wrap (8 * (IntKind.i64.wrap ((IntKind.i64.wrap (size_2_0 - 1)) - t13_13_0))))).bind fun v_7 =>
    (roomI 1 out_7_0 [(IntKind.u8.wrap v_7)]).bind fun v_9 =>
    some (.inl ((n_1_0, size_2_0, v_9, t12_12_0, (IntKind.i64.wrap (t13_13_0 + 1)), ()), ()))
  else
  some (.inr ((out_7_0, ()), ()))
noncomputable def wire_put (b_0 : List Int) (n_1 : Int) (size_2 : Int) : Option (((List Int) × Unit) × (Unit)) :=
  (bytes_Clone b_0).bind fun r_1 =>
  (slices_Clip_byte_byte r_1.1.1).bind fun r_2 =>
  loopR (fun (z : (Int × Int × (List Int) × Int × Int × Unit) × (Unit)) => wire_put_s0 z.1.1 z.1.2.1 z.1.2.2.1 z.1.2.2.2.1 z.1.2.2.2.2.1) ((n_1, size_2, r_2.1.1, size_2, 0, ()), ())

/-! ### shunter/wire.room -/
noncomputable def wire_room (w_0 : Int) : Option ((Int × Unit) × (Unit)) :=
  some (((IntKind.i64.wrap ((IntKind.i64.wrap ((IntKind.i64.wrap (w_0 + 8)) - 1)).tdiv 8)), ()), ())

/-! ### shunter/wire.Vec -/
noncomputable def wire_Vec_s0 (out_5_0 : List Int) (i_6_0 : Int) (p3_0_0 : Int × Int × Int × Unit) : Option ((((List Int) × Int × Unit) × ((Int × Int × Int × Unit) × Unit)) ⊕ (((List Int) × Unit) × (Unit))) :=
  bif (decide (i_6_0 ≥ 0)) then
    (vec_Word (p3_0_0.1, p3_0_0.2.1, p3_0_0.2.2.1, ())).bind fun r_7 =>
    (word_Shr r_7.1.1 (IntKind.i64.wrap (8 * i_6_0))).bind fun r_9 =>
    (roomI 1 out_5_0 [(IntKind.u8.wrap r_9.1.1.2.1)]).bind fun v_11 =>
    some (.inl ((v_11, (IntKind.i64.wrap (i_6_0 - 1)), ()), (p3_0_0.1, p3_0_0.2.1, p3_0_0.2.2.1, ()), ()))
  else
  some (.inr ((out_5_0, ()), ()))
noncomputable def wire_Vec (b_0 : List Int) (v_1 : Int × Int × Int × Unit) : Option (((List Int) × Unit) × (Unit)) :=
  (vec_May (v_1.1, v_1.2.1, v_1.2.2.1, ())).bind fun r_1 =>
  bif !r_1.1.1 then
    (wire_put b_0 0 1).bind fun r_2 =>
    some ((r_2.1.1, ()), ())
  else
  (wire_put b_0 v_1.1 1).bind fun r_3 =>
  (wire_room v_1.1).bind fun r_4 =>
  loopR (fun (z : ((List Int) × Int × Unit) × ((Int × Int × Int × Unit) × Unit)) => wire_Vec_s0 z.1.1 z.1.2.1 z.2.1) ((r_3.1.1, (IntKind.i64.wrap (r_4.1.1 - 1)), ()), (v_1.1, v_1.2.1, v_1.2.2.1, ()), ())

/-! ### shunter/wire.Byte -/
noncomputable def wire_Byte (b_0 : List Int) (n_1 : Int) : Option (((List Int) × Unit) × (Unit)) :=
  (wire_put b_0 n_1 1).bind fun r_1 =>
  some ((r_1.1.1, ()), ())

/-! ### shunter/shunterref07.Number -/
noncomputable def ref07_Number_s0 (l_5_0 : List Bool) (high_6_0 : List Bool) (i_7_0 : Int) : Option ((((List Bool) × (List Bool) × Int × Unit) × (Unit)) ⊕ (((List Int) × Unit) × (Unit))) :=
  bif (decide (i_7_0 ≥ 0)) then
    (Option.map (fun _ => i_7_0) (ckI i_7_0 l_5_0.length)).bind fun v_6 =>
    (rdI l_5_0 v_6).bind fun v_7 =>
    (roomI 1 high_6_0 [v_7]).bind fun v_8 =>
    some (.inl ((l_5_0, v_8, (IntKind.i64.wrap (i_7_0 - 1)), ()), ()))
  else
  ((ref03_Bytes high_6_0).bind fun r_10 =>
  some ((r_10.1.1, ()), ())).map .inr
noncomputable def ref07_Number (n_0 : Int) (size_1 : Int) : Option (((List Int) × Unit) × (Unit)) :=
  (ref02_Bits (64, 0, (IntKind.u64.wrap n_0), ())).bind fun r_2 =>
  loopR (fun (z : ((List Bool) × (List Bool) × Int × Unit) × (Unit)) => ref07_Number_s0 z.1.1 z.1.2.1 z.1.2.2.1) ((r_2.1.1, [], (IntKind.i64.wrap ((IntKind.i64.wrap (8 * size_1)) - 1)), ()), ())

/-! ### shunter/wire.Two -/
noncomputable def wire_Two (b_0 : List Int) (n_1 : Int) : Option (((List Int) × Unit) × (Unit)) :=
  (wire_put b_0 n_1 2).bind fun r_1 =>
  some ((r_1.1.1, ()), ())

/-! ### shunter/wire.Four -/
noncomputable def wire_Four (b_0 : List Int) (n_1 : Int) : Option (((List Int) × Unit) × (Unit)) :=
  (wire_put b_0 n_1 4).bind fun r_1 =>
  some ((r_1.1.1, ()), ())

/-! ### shunter/shunterref07.Vec -/
noncomputable def ref07_Vec_s0 (l_3_0 : List Bool) (p1_0_0 : Int × Int × Int × Unit) : Option ((((List Bool) × Unit) × ((Int × Int × Int × Unit) × Unit)) ⊕ (((List Int) × Unit) × (Unit))) :=
  bif (!decide (((IntKind.i64.wrap ((l_3_0.length : Int) + p1_0_0.1)).tmod 8) = 0)) then
    (roomI 1 l_3_0 [false]).bind fun v_6 =>
    some (.inl ((v_6, ()), (p1_0_0.1, p1_0_0.2.1, p1_0_0.2.2.1, ()), ()))
  else
  ((ref03_Of (p1_0_0.1, p1_0_0.2.1, p1_0_0.2.2.1, ())).bind fun r_8 =>
  (roomI 1 l_3_0 r_8.1.1).bind fun v_9 =>
  (ref03_Bytes v_9).bind fun r_10 =>
  (roomI 1 [(IntKind.u8.wrap p1_0_0.1)] r_10.1.1).bind fun v_11 =>
  some ((v_11, ()), ())).map .inr
noncomputable def ref07_Vec (v_0 : Int × Int × Int × Unit) : Option (((List Int) × Unit) × (Unit)) :=
  (ref02_May (v_0.1, v_0.2.1, v_0.2.2.1, ())).bind fun r_1 =>
  bif !r_1.1.1 then
    some (([0], ()), ())
  else
  loopR (fun (z : ((List Bool) × Unit) × ((Int × Int × Int × Unit) × Unit)) => ref07_Vec_s0 z.1.1 z.2.1) (([], ()), (v_0.1, v_0.2.1, v_0.2.2.1, ()), ())

/-! ### shunter/wire.Name -/
noncomputable def wire_Name (b_0 : List Int) (s_1 : List Int) : Option (((List Int) × Unit) × (Unit)) :=
  bif (decide ((s_1.length : Int) > 255)) then
    (wire_put b_0 0 1).bind fun r_3 =>
    some ((r_3.1.1, ()), ())
  else
  (wire_put b_0 (s_1.length : Int) 1).bind fun r_5 =>
  (roomI 1 r_5.1.1 s_1).bind fun v_6 =>
  some ((v_6, ()), ())

/-! ### shunter/shunterref07.Name -/
noncomputable def ref07_Name (s_0 : List Int) : Option (((List Int) × Unit) × (Unit)) :=
  bif (decide ((s_0.length : Int) > 255)) then
    some (([0], ()), ())
  else
  (roomI 1 [(IntKind.u8.wrap (s_0.length : Int))] s_0).bind fun v_5 =>
  some ((v_5, ()), ())

/-! ### shunter/wire.Vecs -/
noncomputable def wire_Vecs_s0 (out_5_0 : List Int) (t17_17_0 : List (Int × Int × Int × Unit)) (t18_18_0 : Int) (t19_19_0 : Int) : Option ((((List Int) × (List (Int × Int × Int × Unit)) × Int × Int × Unit) × (Unit)) ⊕ (((List Int) × Unit) × (Unit))) :=
  bif (decide (t19_19_0 < t18_18_0)) then
    (rdI t17_17_0 t19_19_0).bind fun v_8 =>
    (wire_Vec out_5_0 v_8).bind fun r_9 =>
    some (.inl ((r_9.1.1, t17_17_0, t18_18_0, (IntKind.i64.wrap (t19_19_0 + 1)), ()), ()))
  else
  some (.inr ((out_5_0, ()), ()))
noncomputable def wire_Vecs (b_0 : List Int) (l_1 : List (Int × Int × Int × Unit)) : Option (((List Int) × Unit) × (Unit)) :=
  bif (decide ((l_1.length : Int) > 255)) then
    (wire_put b_0 0 1).bind fun r_3 =>
    some ((r_3.1.1, ()), ())
  else
  (wire_put b_0 (l_1.length : Int) 1).bind fun r_5 =>
  loopR (fun (z : ((List Int) × (List (Int × Int × Int × Unit)) × Int × Int × Unit) × (Unit)) => wire_Vecs_s0 z.1.1 z.1.2.1 z.1.2.2.1 z.1.2.2.2.1) ((r_5.1.1, l_1, (l_1.length : Int), 0, ()), ())

/-! ### shunter/wire.Numbers -/
noncomputable def wire_Numbers_s0 (out_5_0 : List Int) (t17_17_0 : List Int) (t18_18_0 : Int) (t19_19_0 : Int) : Option ((((List Int) × (List Int) × Int × Int × Unit) × (Unit)) ⊕ (((List Int) × Unit) × (Unit))) :=
  bif (decide (t19_19_0 < t18_18_0)) then
    (rdI t17_17_0 t19_19_0).bind fun v_8 =>
    (roomI 1 out_5_0 [(IntKind.u8.wrap v_8)]).bind fun v_10 =>
    some (.inl ((v_10, t17_17_0, t18_18_0, (IntKind.i64.wrap (t19_19_0 + 1)), ()), ()))
  else
  some (.inr ((out_5_0, ()), ()))
noncomputable def wire_Numbers (b_0 : List Int) (l_1 : List Int) : Option (((List Int) × Unit) × (Unit)) :=
  bif (decide ((l_1.length : Int) > 255)) then
    (wire_put b_0 0 1).bind fun r_3 =>
    some ((r_3.1.1, ()), ())
  else
  (wire_put b_0 (l_1.length : Int) 1).bind fun r_5 =>
  loopR (fun (z : ((List Int) × (List Int) × Int × Int × Unit) × (Unit)) => wire_Numbers_s0 z.1.1 z.1.2.1 z.1.2.2.1 z.1.2.2.2.1) ((r_5.1.1, l_1, (l_1.length : Int), 0, ()), ())

/-! ### (*shunter/wire.Reader).Fail -/
noncomputable def wire_Reader_Fail_d6c (r_0 : Unit) (e_1 : Int) : Option ((Unit) × (Unit)) :=
  some ((), ())

/-! ### (*shunter/wire.cursor).fail -/
noncomputable def wire_cursor_fail_36a (c_0 : (List Int) × Int × Unit × Unit) (e_1 : Int) (at_2 : Int) : Option ((Unit) × (((List Int) × Int × (Option (Int × Int × Unit)) × Unit) × Unit)) :=
  bif (!decide (e_1 = 0)) then
    some ((), (c_0.1, c_0.2.1, some (e_1, at_2, ()), ()), ())
  else
  some ((), (c_0.1, c_0.2.1, none, ()), ())

/-! ### (*shunter/wire.cursor).fail -/
noncomputable def wire_cursor_fail_ba6 (c_0 : (List Int) × Int × (Option (Int × Int × Unit)) × Unit) (e_1 : Int) (at_2 : Int) : Option ((Unit) × (((List Int) × Int × (Option (Int × Int × Unit)) × Unit) × Unit)) :=
  let t10_1 : Bool := c_0.2.2.1.isNone
  guardR t10_1 (some ()) () fun _ =>
  guardR t10_1 (some (!decide (e_1 = 0))) false fun v_2 =>
  bif (bif t10_1 then v_2 else false) then
    some ((), (c_0.1, c_0.2.1, some (e_1, at_2, ()), ()), ())
  else
  some ((), (c_0.1, c_0.2.1, c_0.2.2.1, ()), ())

/-! ### (*shunter/wire.Reader).Fail -/
noncomputable def wire_Reader_Fail_e57 (r_0 : ((List Int) × Int × (Option (Int × Int × Unit)) × Unit) × Unit) (e_1 : Int) : Option ((Unit) × ((((List Int) × Int × (Option (Int × Int × Unit)) × Unit) × Unit) × Unit)) :=
  (wire_cursor_fail_ba6 (r_0.1.1, r_0.1.2.1, r_0.1.2.2.1, ()) e_1 r_0.1.2.1).bind fun r_1 =>
  some ((), (r_1.2.1, ()), ())

/-! ### (*shunter/wire.Reader).Bad -/
noncomputable def wire_Reader_Bad_d35 (r_0 : Unit) : Option ((Bool × Unit) × (Unit)) :=
  some ((true, ()), ())

/-! ### (*shunter/wire.Reader).Left -/
noncomputable def wire_Reader_Left_d35 (r_0 : Unit) : Option ((Int × Unit) × (Unit)) :=
  some ((0, ()), ())

/-! ### (*shunter/wire.Reader).Left -/
noncomputable def wire_Reader_Left_59d (r_0 : ((List Int) × Int × (Option (Int × Int × Unit)) × Unit) × Unit) : Option ((Int × Unit) × ((((List Int) × Int × (Option (Int × Int × Unit)) × Unit) × Unit) × Unit)) :=
  some (((IntKind.i64.wrap ((r_0.1.1.length : Int) - r_0.1.2.1)), ()), ((r_0.1.1, r_0.1.2.1, r_0.1.2.2.1, ()), ()), ())

/-! ### (*shunter/wire.Reader).End -/
noncomputable def wire_Reader_End_d35 (r_0 : Unit) : Option ((((Option (Int × Int × Unit)) ⊕ Unit) × Unit) × (Unit)) :=
  some ((.inl (some (1, 0, ())), ()), ())

/-! ### (*shunter/wire.Reader).End -/
noncomputable def wire_Reader_End_59d (r_0 : ((List Int) × Int × (Option (Int × Int × Unit)) × Unit) × Unit) : Option ((((Option (Int × Int × Unit)) ⊕ Unit) × Unit) × ((((List Int) × Int × (Option (Int × Int × Unit)) × Unit) × Unit) × Unit)) :=
  bif (!(r_0.1.2.2.1.isNone)) then
    r_0.1.2.2.1.bind fun v_2 =>
    r_0.1.2.2.1.bind fun v_3 =>
    some ((.inl (some (v_2.1, v_3.2.1, ())), ()), ((r_0.1.1, r_0.1.2.1, r_0.1.2.2.1, ()), ()), ())
  else
  (wire_Reader_Left_59d ((r_0.1.1, r_0.1.2.1, r_0.1.2.2.1, ()), ())).bind fun r_4 =>
  bif (decide (r_4.1.1 > 0)) then
    some ((.inl (some (2, r_4.2.1.1.2.1, ())), ()), r_4.2.1, ())
  else
  some ((.inr (), ()), r_4.2.1, ())

/-! ### shunter/wire.Why -/
noncomputable def wire_Why_8d8 (err_0 : (Option (Int × Int × Unit)) ⊕ Unit) : Option ((Int × Int × Unit) × (Unit)) :=
  bif (isNil1 err_0) then
    some ((0, 0, ()), ())
  else
  let t11_2 : Option (Int × Int × Unit) := (getAlt0 err_0).getD none
  let t12_3 : Bool := (getAlt0 err_0).isSome
  guardR (!(!t12_3)) (some ()) () fun _ =>
  guardR (!(!t12_3)) (some (t11_2.isNone)) false fun v_4 =>
  bif (bif !t12_3 then true else v_4) then
    some ((10, 0, ()), ())
  else
  t11_2.bind fun v_6 =>
  t11_2.bind fun v_7 =>
  some ((v_6.1, v_7.2.1, ()), ())

/-! ### (*shunter/wire.cursor).take -/
noncomputable def wire_cursor_take_1ca (c_0 : (List Int) × Int × Unit × Unit) (n_1 : Int) : Option (((List Int) × Bool × Unit) × (((List Int) × Int × Unit × Unit) × Unit)) :=
  bif (decide (n_1 > (IntKind.i64.wrap ((c_0.1.length : Int) - c_0.2.1)))) then
    some (([], false, ()), (c_0.1, c_0.2.1, c_0.2.2.1, ()), ())
  else
  let t30_4 : Int := IntKind.i64.wrap (c_0.2.1 + n_1)
  (subL c_0.1 (IntKind.i64.wrap (t30_4 - n_1)) t30_4).bind fun v_6 =>
  some ((v_6, true, ()), (c_0.1, t30_4, c_0.2.2.1, ()), ())

/-! ### (*shunter/wire.cursor).take -/
noncomputable def wire_cursor_take_c4f (c_0 : (List Int) × Int × (Option (Int × Int × Unit)) × Unit) (n_1 : Int) : Option (((List Int) × Bool × Unit) × (((List Int) × Int × (Option (Int × Int × Unit)) × Unit) × Unit)) :=
  let t10_1 : Bool := !(c_0.2.2.1.isNone)
  guardR (!t10_1) (some ()) () fun _ =>
  guardR (!t10_1) (some ()) () fun _ =>
  guardR (!t10_1) (some ()) () fun _ =>
  guardR (!t10_1) (some ()) () fun _ =>
  guardR (!t10_1) (some c_0.1) [] fun v_2 =>
  guardR (!t10_1) (some (v_2.length : Int)) 0 fun v_3 =>
  guardR (!t10_1) (some ()) () fun _ =>
  guardR (!t10_1) (some ()) () fun _ =>
  guardR (!t10_1) (some ()) () fun _ =>
  guardR (!t10_1) (some c_0.2.1) 0 fun v_4 =>
  guardR (!t10_1) (some (IntKind.i64.wrap (v_3 - v_4))) 0 fun v_5 =>
  guardR (!t10_1) (some (decide (n_1 > v_5))) false fun v_6 =>
  bif (bif t10_1 then true else v_6) then
    some (([], false, ()), (c_0.1, c_0.2.1, c_0.2.2.1, ()), ())
  else
  let t30_8 : Int := IntKind.i64.wrap (c_0.2.1 + n_1)
  (subL c_0.1 (IntKind.i64.wrap (t30_8 - n_1)) t30_8).bind fun v_10 =>
  some ((v_10, true, ()), (c_0.1, t30_8, c_0.2.2.1, ()), ())

/-! ### (*shunter/wire.Reader).number -/
noncomputable def wire_Reader_number_639 (r_0 : Unit) (size_1 : Int) (most_2 : Int) : Option ((Int × Unit) × (Unit)) :=
  some ((0, ()), ())

/-! ### (*shunter/wire.Reader).number -/
noncomputable def wire_Reader_number_395_s0 (most_2_0 : Int) (from_7_0 : Int) (n_10_0 : Int) (t35_35_0 : List Int) (t36_36_0 : Int) (t37_37_0 : Int) (o0_0 : ((List Int) × Int × Unit × Unit) × Unit) : Option (((Int × Int × Int × (List Int) × Int × Int × Unit) × ((((List Int) × Int × Unit × Unit) × Unit) × Unit)) ⊕ ((Int × Unit) × ((((List Int) × Int × (Option (Int × Int × Unit)) × Unit) × Unit) × Unit))) :=
  bif (decide (t37_37_0 < t36_36_0)) then
    (rdI t35_35_0 t37_37_0).bind fun v_5 =>
    some (.inl ((most_2_0, from_7_0, (bitsI .or .i64 (IntKind.i64.wrap (n_10_0 * 2 ^ 8)) (IntKind.i64.wrap v_5)), t35_35_0, t36_36_0, (IntKind.i64.wrap (t37_37_0 + 1)), ()), ((o0_0.1.1, o0_0.1.2.1, o0_0.1.2.2.1, ()), ()), ()))
  else
  (bif (decide (n_10_0 > most_2_0)) then
    (wire_cursor_fail_36a (o0_0.1.1, from_7_0, o0_0.1.2.2.1, ()) 7 from_7_0).bind fun r_11 =>
    some ((0, ()), (r_11.2.1, ()), ())
  else
  some ((n_10_0, ()), ((o0_0.1.1, o0_0.1.2.1, none, ()), ()), ())).map .inr
noncomputable def wire_Reader_number_395 (r_0 : ((List Int) × Int × Unit × Unit) × Unit) (size_1 : Int) (most_2 : Int) : Option ((Int × Unit) × ((((List Int) × Int × (Option (Int × Int × Unit)) × Unit) × Unit) × Unit)) :=
  (wire_cursor_take_1ca (r_0.1.1, r_0.1.2.1, r_0.1.2.2.1, ()) size_1).bind fun r_1 =>
  bif !r_1.1.2.1 then
    (wire_cursor_fail_36a r_1.2.1 3 r_0.1.2.1).bind fun r_2 =>
    some ((0, ()), (r_2.2.1, ()), ())
  else
  loopR (fun (z : (Int × Int × Int × (List Int) × Int × Int × Unit) × ((((List Int) × Int × Unit × Unit) × Unit) × Unit)) => wire_Reader_number_395_s0 z.1.1 z.1.2.1 z.1.2.2.1 z.1.2.2.2.1 z.1.2.2.2.2.1 z.1.2.2.2.2.2.1 z.2.1) ((most_2, r_0.1.2.1, 0, r_1.1.1, (r_1.1.1.length : Int), 0, ()), (r_1.2.1, ()), ())

/-! ### (*shunter/wire.Reader).number -/
noncomputable def wire_Reader_number_28a_s0 (most_2_0 : Int) (from_7_0 : Int) (n_10_0 : Int) (t35_35_0 : List Int) (t36_36_0 : Int) (t37_37_0 : Int) (o0_0 : ((List Int) × Int × (Option (Int × Int × Unit)) × Unit) × Unit) : Option (((Int × Int × Int × (List Int) × Int × Int × Unit) × ((((List Int) × Int × (Option (Int × Int × Unit)) × Unit) × Unit) × Unit)) ⊕ ((Int × Unit) × ((((List Int) × Int × (Option (Int × Int × Unit)) × Unit) × Unit) × Unit))) :=
  bif (decide (t37_37_0 < t36_36_0)) then
    (rdI t35_35_0 t37_37_0).bind fun v_5 =>
    some (.inl ((most_2_0, from_7_0, (bitsI .or .i64 (IntKind.i64.wrap (n_10_0 * 2 ^ 8)) (IntKind.i64.wrap v_5)), t35_35_0, t36_36_0, (IntKind.i64.wrap (t37_37_0 + 1)), ()), ((o0_0.1.1, o0_0.1.2.1, o0_0.1.2.2.1, ()), ()), ()))
  else
  (bif (decide (n_10_0 > most_2_0)) then
    (wire_cursor_fail_ba6 (o0_0.1.1, from_7_0, o0_0.1.2.2.1, ()) 7 from_7_0).bind fun r_11 =>
    some ((0, ()), (r_11.2.1, ()), ())
  else
  some ((n_10_0, ()), ((o0_0.1.1, o0_0.1.2.1, o0_0.1.2.2.1, ()), ()), ())).map .inr
noncomputable def wire_Reader_number_28a (r_0 : ((List Int) × Int × (Option (Int × Int × Unit)) × Unit) × Unit) (size_1 : Int) (most_2 : Int) : Option ((Int × Unit) × ((((List Int) × Int × (Option (Int × Int × Unit)) × Unit) × Unit) × Unit)) :=
  (wire_cursor_take_c4f (r_0.1.1, r_0.1.2.1, r_0.1.2.2.1, ()) size_1).bind fun r_1 =>
  bif !r_1.1.2.1 then
    (wire_cursor_fail_ba6 r_1.2.1 3 r_0.1.2.1).bind fun r_2 =>
    some ((0, ()), (r_2.2.1, ()), ())
  else
  loopR (fun (z : (Int × Int × Int × (List Int) × Int × Int × Unit) × ((((List Int) × Int × (Option (Int × Int × Unit)) × Unit) × Unit) × Unit)) => wire_Reader_number_28a_s0 z.1.1 z.1.2.1 z.1.2.2.1 z.1.2.2.2.1 z.1.2.2.2.2.1 z.1.2.2.2.2.2.1 z.2.1) ((most_2, r_0.1.2.1, 0, r_1.1.1, (r_1.1.1.length : Int), 0, ()), (r_1.2.1, ()), ())

/-! ### (*shunter/wire.Reader).Byte -/
noncomputable def wire_Reader_Byte_d6c (r_0 : Unit) (most_1 : Int) : Option ((Int × Unit) × (Unit)) :=
  (wire_Reader_number_639 r_0 1 most_1).bind fun r_1 =>
  some ((r_1.1.1, ()), ())

/-! ### (*shunter/wire.Reader).Byte -/
noncomputable def wire_Reader_Byte_db0 (r_0 : ((List Int) × Int × Unit × Unit) × Unit) (most_1 : Int) : Option ((Int × Unit) × ((((List Int) × Int × (Option (Int × Int × Unit)) × Unit) × Unit) × Unit)) :=
  (wire_Reader_number_395 ((r_0.1.1, r_0.1.2.1, r_0.1.2.2.1, ()), ()) 1 most_1).bind fun r_1 =>
  some ((r_1.1.1, ()), r_1.2.1, ())

/-! ### (*shunter/wire.Reader).Byte -/
noncomputable def wire_Reader_Byte_e57 (r_0 : ((List Int) × Int × (Option (Int × Int × Unit)) × Unit) × Unit) (most_1 : Int) : Option ((Int × Unit) × ((((List Int) × Int × (Option (Int × Int × Unit)) × Unit) × Unit) × Unit)) :=
  (wire_Reader_number_28a ((r_0.1.1, r_0.1.2.1, r_0.1.2.2.1, ()), ()) 1 most_1).bind fun r_1 =>
  some ((r_1.1.1, ()), r_1.2.1, ())

/-! ### (*shunter/wire.Reader).Two -/
noncomputable def wire_Reader_Two_d6c (r_0 : Unit) (most_1 : Int) : Option ((Int × Unit) × (Unit)) :=
  (wire_Reader_number_639 r_0 2 most_1).bind fun r_1 =>
  some ((r_1.1.1, ()), ())

/-! ### (*shunter/wire.Reader).Four -/
noncomputable def wire_Reader_Four_d6c (r_0 : Unit) (most_1 : Int) : Option ((Int × Unit) × (Unit)) :=
  (wire_Reader_number_639 r_0 4 most_1).bind fun r_1 =>
  some ((r_1.1.1, ()), ())

/-! ### (*shunter/wire.Reader).Vec -/
noncomputable def wire_Reader_Vec_d35 (r_0 : Unit) : Option (((Int × Int × Int × Unit) × Unit) × (Unit)) :=
  some (((0, 0, 0, ()), ()), ())

/-! ### (*shunter/wire.Reader).Name -/
noncomputable def wire_Reader_Name_d35 (r_0 : Unit) : Option (((List Int) × Unit) × (Unit)) :=
  some (([], ()), ())

/-! ### (*shunter/wire.Reader).Vecs -/
noncomputable def wire_Reader_Vecs_d6c (r_0 : Unit) (most_1 : Int) : Option ((Unit × Unit) × (Unit)) :=
  some (((), ()), ())

/-! ### (*shunter/wire.Reader).Numbers -/
noncomputable def wire_Reader_Numbers_639 (r_0 : Unit) (count_1 : Int) (most_2 : Int) : Option ((Unit × Unit) × (Unit)) :=
  some (((), ()), ())

/-! ### (*shunter/wire.Reader).At -/
noncomputable def wire_Reader_At_d35 (r_0 : Unit) : Option ((Int × Unit) × (Unit)) :=
  some ((0, ()), ())

/-! ### (*shunter/wire.Reader).At -/
noncomputable def wire_Reader_At_59d (r_0 : ((List Int) × Int × (Option (Int × Int × Unit)) × Unit) × Unit) : Option ((Int × Unit) × ((((List Int) × Int × (Option (Int × Int × Unit)) × Unit) × Unit) × Unit)) :=
  some ((r_0.1.2.1, ()), ((r_0.1.1, r_0.1.2.1, r_0.1.2.2.1, ()), ()), ())

/-! ### shunter/wire.Read -/
noncomputable def wire_Read (b_0 : List Int) : Option (((((List Int) × Int × Unit × Unit) × Unit) × Unit) × (Unit)) :=
  (bytes_Clone b_0).bind fun r_1 =>
  some ((((r_1.1.1, 0, (), ()), ()), ()), ())

/-! ### shunter/wire.digits -/
noncomputable def wire_digits (n_0 : Int) : Option (((List Int) × Unit) × (Unit)) :=
  bif (decide (n_0 < 0)) then
    some (([], ()), ())
  else
  (word_Text (0, (IntKind.u64.wrap n_0), ()) 10).bind fun r_3 =>
  some ((r_3.1.1, ()), ())

/-! ### (*shunter/wire.Fault).Error -/
noncomputable def wire_Fault_Error_d35 (f_0 : Unit) : Option (((List Int) × Unit) × (Unit)) :=
  some (([], ()), ())

/-! ### (*shunter/wire.Fault).Error -/
noncomputable def wire_Fault_Error_bca (f_0 : Option (Int × Int × Unit)) : Option (((List Int) × Unit) × (Unit)) :=
  bif f_0.isNone then
    some (([], ()), ())
  else
  f_0.bind fun v_1 =>
  (wire_digits v_1.1).bind fun r_2 =>
  (catI [102, 97, 117, 108, 116, 32] r_2.1.1).bind fun v_3 =>
  (catI v_3 [32, 97, 116, 32, 98, 121, 116, 101, 32]).bind fun v_4 =>
  f_0.bind fun v_5 =>
  (wire_digits v_5.2.1).bind fun r_6 =>
  (catI v_4 r_6.1.1).bind fun v_7 =>
  some ((v_7, ()), ())

/-! ### shunter/wire.Only -/
noncomputable def wire_Only_8d8 (err_0 : (Option (Int × Int × Unit)) ⊕ Unit) : Option (((Option (Int × Int × Unit)) × Unit) × (Unit)) :=
  (getAlt0 err_0).bind fun v_1 =>
  some ((v_1, ()), ())

/-! ### (*shunter/wire.Reader).back -/
noncomputable def wire_Reader_back_28a (r_0 : ((List Int) × Int × (Option (Int × Int × Unit)) × Unit) × Unit) (e_1 : Int) (from_2 : Int) : Option ((Unit) × ((((List Int) × Int × (Option (Int × Int × Unit)) × Unit) × Unit) × Unit)) :=
  bif (r_0.1.2.2.1.isNone) then
    (wire_cursor_fail_ba6 (r_0.1.1, from_2, r_0.1.2.2.1, ()) e_1 from_2).bind fun r_2 =>
    some ((), (r_2.2.1, ()), ())
  else
  some ((), ((r_0.1.1, r_0.1.2.1, r_0.1.2.2.1, ()), ()), ())

/-! ### (*shunter/wire.Reader).count -/
noncomputable def wire_Reader_count_e57 (r_0 : ((List Int) × Int × (Option (Int × Int × Unit)) × Unit) × Unit) (limit_1 : Int) : Option ((Int × Unit) × ((((List Int) × Int × (Option (Int × Int × Unit)) × Unit) × Unit) × Unit)) :=
  (wire_Reader_Byte_e57 ((r_0.1.1, r_0.1.2.1, r_0.1.2.2.1, ()), ()) 255).bind fun r_1 =>
  bif (decide (r_1.1.1 > limit_1)) then
    (wire_Reader_back_28a r_1.2.1 2 r_0.1.2.1).bind fun r_3 =>
    some ((0, ()), r_3.2.1, ())
  else
  some ((r_1.1.1, ()), r_1.2.1, ())

/-! ### (*shunter/wire.Reader).Numbers -/
noncomputable def wire_Reader_Numbers_28a_s0 (most_2_0 : Int) (l_7_0 : List Int) (t13_13_0 : Int) (t14_14_0 : Int) (o0_0 : ((List Int) × Int × (Option (Int × Int × Unit)) × Unit) × Unit) : Option (((Int × (List Int) × Int × Int × Unit) × ((((List Int) × Int × (Option (Int × Int × Unit)) × Unit) × Unit) × Unit)) ⊕ (((List Int) × Unit) × ((((List Int) × Int × (Option (Int × Int × Unit)) × Unit) × Unit) × Unit))) :=
  bif (decide (t14_14_0 < t13_13_0)) then
    (wire_Reader_Byte_e57 ((o0_0.1.1, o0_0.1.2.1, o0_0.1.2.2.1, ()), ()) most_2_0).bind fun r_3 =>
    (roomI 8 l_7_0 [r_3.1.1]).bind fun v_4 =>
    some (.inl ((most_2_0, v_4, t13_13_0, (IntKind.i64.wrap (t14_14_0 + 1)), ()), r_3.2.1, ()))
  else
  (bif (!(o0_0.1.2.2.1.isNone)) then
    some (([], ()), ((o0_0.1.1, o0_0.1.2.1, o0_0.1.2.2.1, ()), ()), ())
  else
  some ((l_7_0, ()), ((o0_0.1.1, o0_0.1.2.1, o0_0.1.2.2.1, ()), ()), ())).map .inr
noncomputable def wire_Reader_Numbers_28a (r_0 : ((List Int) × Int × (Option (Int × Int × Unit)) × Unit) × Unit) (count_1 : Int) (most_2 : Int) : Option (((List Int) × Unit) × ((((List Int) × Int × (Option (Int × Int × Unit)) × Unit) × Unit) × Unit)) :=
  (wire_Reader_count_e57 ((r_0.1.1, r_0.1.2.1, r_0.1.2.2.1, ()), ()) count_1).bind fun r_1 =>
  loopR (fun (z : (Int × (List Int) × Int × Int × Unit) × ((((List Int) × Int × (Option (Int × Int × Unit)) × Unit) × Unit) × Unit)) => wire_Reader_Numbers_28a_s0 z.1.1 z.1.2.1 z.1.2.2.1 z.1.2.2.2.1 z.2.1) ((most_2, [], r_1.1.1, 0, ()), r_1.2.1, ())

/-! ### (*shunter/wire.Reader).Vec -/
noncomputable def wire_Reader_Vec_59d_s0 (from_3_0 : Int) (w_4_0 : Int) (t47_47_0 : List Int) (t48_48_0 : Int) (t49_49_0 : Int) (p2_0_0 : Int × Int × Int × Unit) (p7_0_0 : Int × Int × Unit) (o0_0 : ((List Int) × Int × (Option (Int × Int × Unit)) × Unit) × Unit) : Option (((Int × Int × (List Int) × Int × Int × Unit) × ((Int × Int × Int × Unit) × (Int × Int × Unit) × (((List Int) × Int × (Option (Int × Int × Unit)) × Unit) × Unit) × Unit)) ⊕ (((Int × Int × Int × Unit) × Unit) × ((((List Int) × Int × (Option (Int × Int × Unit)) × Unit) × Unit) × Unit))) :=
  bif (decide (t49_49_0 < t48_48_0)) then
    (rdI t47_47_0 t49_49_0).bind fun v_11 =>
    (word_Shl (p7_0_0.1, p7_0_0.2.1, ()) 8).bind fun r_12 =>
    (word_Or r_12.1.1 (0, (IntKind.u64.wrap v_11), ())).bind fun r_14 =>
    some (.inl ((from_3_0, w_4_0, t47_47_0, t48_48_0, (IntKind.i64.wrap (t49_49_0 + 1)), ()), (p2_0_0.1, p2_0_0.2.1, p2_0_0.2.2.1, ()), r_14.1.1, ((o0_0.1.1, o0_0.1.2.1, o0_0.1.2.2.1, ()), ()), ()))
  else
  ((vec_New w_4_0 p7_0_0.1 p7_0_0.2.1).bind fun r_16 =>
  bif (!decide (r_16.1.2.1 = 0)) then
    (wire_Reader_back_28a ((o0_0.1.1, o0_0.1.2.1, o0_0.1.2.2.1, ()), ()) 4 from_3_0).bind fun r_18 =>
    some ((r_16.1.1, ()), r_18.2.1, ())
  else
  some ((r_16.1.1, ()), ((o0_0.1.1, o0_0.1.2.1, o0_0.1.2.2.1, ()), ()), ())).map .inr
noncomputable def wire_Reader_Vec_59d (r_0 : ((List Int) × Int × (Option (Int × Int × Unit)) × Unit) × Unit) : Option (((Int × Int × Int × Unit) × Unit) × ((((List Int) × Int × (Option (Int × Int × Unit)) × Unit) × Unit) × Unit)) :=
  (wire_Reader_Byte_e57 ((r_0.1.1, r_0.1.2.1, r_0.1.2.2.1, ()), ()) 255).bind fun r_1 =>
  let t23_2 : Bool := decide (r_1.1.1 < 1)
  guardR (!t23_2) (some ()) () fun _ =>
  guardR (!t23_2) (some (decide (r_1.1.1 > 128))) false fun v_3 =>
  bif (bif t23_2 then true else v_3) then
    (wire_Reader_back_28a r_1.2.1 9 r_0.1.2.1).bind fun r_5 =>
    some (((0, 0, 0, ()), ()), r_5.2.1, ())
  else
  (wire_room r_1.1.1).bind fun r_6 =>
  (wire_cursor_take_c4f r_1.2.1.1 r_6.1.1).bind fun r_7 =>
  bif !r_7.1.2.1 then
    (wire_Reader_back_28a (r_7.2.1, r_1.2.1.2) 3 r_0.1.2.1).bind fun r_8 =>
    some (((0, 0, 0, ()), ()), r_8.2.1, ())
  else
  loopR (fun (z : (Int × Int × (List Int) × Int × Int × Unit) × ((Int × Int × Int × Unit) × (Int × Int × Unit) × (((List Int) × Int × (Option (Int × Int × Unit)) × Unit) × Unit) × Unit)) => wire_Reader_Vec_59d_s0 z.1.1 z.1.2.1 z.1.2.2.1 z.1.2.2.2.1 z.1.2.2.2.2.1 z.2.1 z.2.2.1 z.2.2.2.1) ((r_0.1.2.1, r_1.1.1, r_7.1.1, (r_7.1.1.length : Int), 0, ()), (0, 0, 0, ()), (0, 0, ()), (r_7.2.1, r_1.2.1.2), ())

/-! ### (*shunter/wire.Reader).Vecs -/
noncomputable def wire_Reader_Vecs_e57_s0 (l_5_0 : List (Int × Int × Int × Unit)) (t11_11_0 : Int) (t12_12_0 : Int) (o0_0 : ((List Int) × Int × (Option (Int × Int × Unit)) × Unit) × Unit) : Option ((((List (Int × Int × Int × Unit)) × Int × Int × Unit) × ((((List Int) × Int × (Option (Int × Int × Unit)) × Unit) × Unit) × Unit)) ⊕ (((List (Int × Int × Int × Unit)) × Unit) × ((((List Int) × Int × (Option (Int × Int × Unit)) × Unit) × Unit) × Unit))) :=
  bif (decide (t12_12_0 < t11_11_0)) then
    (wire_Reader_Vec_59d ((o0_0.1.1, o0_0.1.2.1, o0_0.1.2.2.1, ()), ())).bind fun r_3 =>
    (roomI 24 l_5_0 [r_3.1.1]).bind fun v_4 =>
    some (.inl ((v_4, t11_11_0, (IntKind.i64.wrap (t12_12_0 + 1)), ()), r_3.2.1, ()))
  else
  (bif (!(o0_0.1.2.2.1.isNone)) then
    some (([], ()), ((o0_0.1.1, o0_0.1.2.1, o0_0.1.2.2.1, ()), ()), ())
  else
  some ((l_5_0, ()), ((o0_0.1.1, o0_0.1.2.1, o0_0.1.2.2.1, ()), ()), ())).map .inr
noncomputable def wire_Reader_Vecs_e57 (r_0 : ((List Int) × Int × (Option (Int × Int × Unit)) × Unit) × Unit) (most_1 : Int) : Option (((List (Int × Int × Int × Unit)) × Unit) × ((((List Int) × Int × (Option (Int × Int × Unit)) × Unit) × Unit) × Unit)) :=
  (wire_Reader_count_e57 ((r_0.1.1, r_0.1.2.1, r_0.1.2.2.1, ()), ()) most_1).bind fun r_1 =>
  loopR (fun (z : ((List (Int × Int × Int × Unit)) × Int × Int × Unit) × ((((List Int) × Int × (Option (Int × Int × Unit)) × Unit) × Unit) × Unit)) => wire_Reader_Vecs_e57_s0 z.1.1 z.1.2.1 z.1.2.2.1 z.2.1) (([], r_1.1.1, 0, ()), r_1.2.1, ())

/-! ### (*shunter/wire.Reader).Two -/
noncomputable def wire_Reader_Two_e57 (r_0 : ((List Int) × Int × (Option (Int × Int × Unit)) × Unit) × Unit) (most_1 : Int) : Option ((Int × Unit) × ((((List Int) × Int × (Option (Int × Int × Unit)) × Unit) × Unit) × Unit)) :=
  (wire_Reader_number_28a ((r_0.1.1, r_0.1.2.1, r_0.1.2.2.1, ()), ()) 2 most_1).bind fun r_1 =>
  some ((r_1.1.1, ()), r_1.2.1, ())

/-! ### (*shunter/wire.Reader).Bad -/
noncomputable def wire_Reader_Bad_59d (r_0 : ((List Int) × Int × (Option (Int × Int × Unit)) × Unit) × Unit) : Option ((Bool × Unit) × ((((List Int) × Int × (Option (Int × Int × Unit)) × Unit) × Unit) × Unit)) :=
  some (((!(r_0.1.2.2.1.isNone)), ()), ((r_0.1.1, r_0.1.2.1, r_0.1.2.2.1, ()), ()), ())

/-! ### shunter/shunterref07.fail -/
noncomputable def ref07_fail (r_0 : (List Int) × Int × Int × Int × Unit) (e_1 : Int) (at_2 : Int) : Option ((((List Int) × Int × Int × Int × Unit) × Unit) × (Unit)) :=
  let t9_1 : Bool := decide (r_0.2.2.1 = 0)
  guardR t9_1 (some ()) () fun _ =>
  guardR t9_1 (some (!decide (e_1 = 0))) false fun v_2 =>
  bif (bif t9_1 then v_2 else false) then
    some (((r_0.1, r_0.2.1, e_1, at_2, ()), ()), ())
  else
  some (((r_0.1, r_0.2.1, r_0.2.2.1, r_0.2.2.2.1, ()), ()), ())

/-! ### shunter/shunterref07.Take -/
noncomputable def ref07_Take (r_0 : (List Int) × Int × Int × Int × Unit) (size_1 : Int) (most_2 : Int) : Option ((((List Int) × Int × Int × Int × Unit) × Int × Unit) × (Unit)) :=
  bif (!decide (r_0.2.2.1 = 0)) then
    some (((r_0.1, r_0.2.1, r_0.2.2.1, r_0.2.2.2.1, ()), 0, ()), ())
  else
  bif (decide ((r_0.1.length : Int) < size_1)) then
    (ref07_fail (r_0.1, r_0.2.1, r_0.2.2.1, r_0.2.2.2.1, ()) 3 r_0.2.1).bind fun r_4 =>
    some ((r_4.1.1, 0, ()), ())
  else
  (subL r_0.1 0 size_1).bind fun v_5 =>
  (ref03_Bits v_5).bind fun r_6 =>
  (ref03_Vec r_6.1.1).bind fun r_7 =>
  let t31_8 : Int := IntKind.i64.wrap r_7.1.1.2.2.1
  bif (decide (t31_8 > most_2)) then
    (ref07_fail (r_0.1, r_0.2.1, r_0.2.2.1, r_0.2.2.2.1, ()) 7 r_0.2.1).bind fun r_10 =>
    some ((r_10.1.1, 0, ()), ())
  else
  (subL r_0.1 size_1 (r_0.1.length : Int)).bind fun v_11 =>
  some (((v_11, (IntKind.i64.wrap (r_0.2.1 + size_1)), r_0.2.2.1, r_0.2.2.2.1, ()), t31_8, ()), ())

/-! ### shunter/shunterref07.Count -/
noncomputable def ref07_Count (r_0 : (List Int) × Int × Int × Int × Unit) (most_1 : Int) : Option ((((List Int) × Int × Int × Int × Unit) × Int × Unit) × (Unit)) :=
  bif (!decide (r_0.2.2.1 = 0)) then
    some (((r_0.1, r_0.2.1, r_0.2.2.1, r_0.2.2.2.1, ()), 0, ()), ())
  else
  (ref07_Take (r_0.1, r_0.2.1, r_0.2.2.1, r_0.2.2.2.1, ()) 1 255).bind fun r_2 =>
  let t19_3 : Bool := decide (r_2.1.1.2.2.1 = 0)
  guardR t19_3 (some ()) () fun _ =>
  guardR t19_3 (some ()) () fun _ =>
  guardR t19_3 (some (decide (r_2.1.2.1 > most_1))) false fun v_4 =>
  bif (bif t19_3 then v_4 else false) then
    (ref07_fail (r_0.1, r_0.2.1, r_0.2.2.1, r_0.2.2.2.1, ()) 2 r_0.2.1).bind fun r_6 =>
    some ((r_6.1.1, 0, ()), ())
  else
  some ((r_2.1.1, r_2.1.2.1, ()), ())

/-! ### shunter/shunterref07.TakeVec -/
noncomputable def ref07_TakeVec_s0 (w_5_0 : Int) (n_6_0 : Int) (l_7_0 : List Bool) (i_8_0 : Int) (p1_0_0 : (List Int) × Int × Int × Int × Unit) (p2_0_0 : Unit × Int × Int × Int × Unit) (p3_0_0 : Int × Int × Int × Unit) (p4_0_0 : (List Int) × Int × Int × Int × Unit) : Option (((Int × Int × (List Bool) × Int × Unit) × (((List Int) × Int × Int × Int × Unit) × (Unit × Int × Int × Int × Unit) × (Int × Int × Int × Unit) × ((List Int) × Int × Int × Int × Unit) × Unit)) ⊕ ((((List Int) × Int × Int × Int × Unit) × (Int × Int × Int × Unit) × Unit) × (Unit))) :=
  bif (decide (i_8_0 < (IntKind.i64.wrap ((l_7_0.length : Int) - w_5_0)))) then
    (Option.map (fun _ => i_8_0) (ckI i_8_0 l_7_0.length)).bind fun v_18 =>
    (rdI l_7_0 v_18).bind fun v_19 =>
    bif v_19 then
      (ref07_fail (p1_0_0.1, p1_0_0.2.1, p1_0_0.2.2.1, p1_0_0.2.2.2.1, ()) 4 p1_0_0.2.1).bind fun r_20 =>
      some (.inr ((r_20.1.1, (0, 0, 0, ()), ()), ()))
    else
    some (.inl ((w_5_0, n_6_0, l_7_0, (IntKind.i64.wrap (i_8_0 + 1)), ()), (p1_0_0.1, p1_0_0.2.1, p1_0_0.2.2.1, p1_0_0.2.2.2.1, ()), (p2_0_0.1, p2_0_0.2.1, p2_0_0.2.2.1, p2_0_0.2.2.2.1, ()), (p3_0_0.1, p3_0_0.2.1, p3_0_0.2.2.1, ()), (p4_0_0.1, p4_0_0.2.1, p4_0_0.2.2.1, p4_0_0.2.2.2.1, ()), ()))
  else
  ((subL p4_0_0.1 n_6_0 (p4_0_0.1.length : Int)).bind fun v_22 =>
  (subL l_7_0 (IntKind.i64.wrap ((l_7_0.length : Int) - w_5_0)) (l_7_0.length : Int)).bind fun v_26 =>
  (ref03_Vec v_26).bind fun r_27 =>
  some (((v_22, (IntKind.i64.wrap (p4_0_0.2.1 + n_6_0)), p4_0_0.2.2.1, p4_0_0.2.2.2.1, ()), r_27.1.1, ()), ())).map .inr
noncomputable def ref07_TakeVec (r_0 : (List Int) × Int × Int × Int × Unit) : Option ((((List Int) × Int × Int × Int × Unit) × (Int × Int × Int × Unit) × Unit) × (Unit)) :=
  bif (!decide (r_0.2.2.1 = 0)) then
    some (((r_0.1, r_0.2.1, r_0.2.2.1, r_0.2.2.2.1, ()), (0, 0, 0, ()), ()), ())
  else
  (ref07_Take (r_0.1, r_0.2.1, r_0.2.2.1, r_0.2.2.2.1, ()) 1 255).bind fun r_2 =>
  bif (!decide (r_2.1.1.2.2.1 = 0)) then
    some ((r_2.1.1, (0, 0, 0, ()), ()), ())
  else
  let t25_4 : Bool := decide (r_2.1.2.1 < 1)
  guardR (!t25_4) (some ()) () fun _ =>
  guardR (!t25_4) (some (decide (r_2.1.2.1 > 128))) false fun v_5 =>
  bif (bif t25_4 then true else v_5) then
    (ref07_fail (r_0.1, r_0.2.1, r_0.2.2.1, r_0.2.2.2.1, ()) 9 r_0.2.1).bind fun r_7 =>
    some ((r_7.1.1, (0, 0, 0, ()), ()), ())
  else
  let t37_9 : Int := IntKind.i64.wrap ((IntKind.i64.wrap (r_2.1.2.1 + 7)).tdiv 8)
  bif (decide ((r_2.1.1.1.length : Int) < t37_9)) then
    (ref07_fail (r_0.1, r_0.2.1, r_0.2.2.1, r_0.2.2.2.1, ()) 3 r_0.2.1).bind fun r_12 =>
    some ((r_12.1.1, (0, 0, 0, ()), ()), ())
  else
  (subL r_2.1.1.1 0 t37_9).bind fun v_13 =>
  (ref03_Bits v_13).bind fun r_14 =>
  loopR (fun (z : (Int × Int × (List Bool) × Int × Unit) × (((List Int) × Int × Int × Int × Unit) × (Unit × Int × Int × Int × Unit) × (Int × Int × Int × Unit) × ((List Int) × Int × Int × Int × Unit) × Unit)) => ref07_TakeVec_s0 z.1.1 z.1.2.1 z.1.2.2.1 z.1.2.2.2.1 z.2.1 z.2.2.1 z.2.2.2.1 z.2.2.2.2.1) ((r_2.1.2.1, t37_9, r_14.1.1, 0, ()), (r_0.1, r_0.2.1, r_0.2.2.1, r_0.2.2.2.1, ()), ((), 0, 0, 0, ()), (0, 0, 0, ()), r_2.1.1, ())

/-! ### shunter/shunterref07.End -/
noncomputable def ref07_End (r_0 : (List Int) × Int × Int × Int × Unit) : Option ((Int × Int × Unit) × (Unit)) :=
  bif (!decide (r_0.2.2.1 = 0)) then
    some ((r_0.2.2.1, r_0.2.2.2.1, ()), ())
  else
  bif (decide ((r_0.1.length : Int) > 0)) then
    some ((2, r_0.2.1, ()), ())
  else
  some ((0, 0, ()), ())

end Go.L

namespace Go.L
open Go Go.Pv
set_option maxRecDepth 100000

/-! ### shunter/exact.New -/
noncomputable def exact_New_s0 (most_0_0 : Int) (size_3_0 : Int) : Option (((Int × Int × Unit) × (Unit)) ⊕ (((Unit × Unit) × (Unit)) ⊕ ((((List (Bool × ((Int × Int × Int × Unit) × Int × Unit) × Unit)) × Int × Int × Unit) × Unit) × (Unit)))) :=
  bif (decide (size_3_0 < (IntKind.i64.wrap (2 * most_0_0)))) then
    some (.inl ((most_0_0, (IntKind.i64.wrap (size_3_0 * 2)), ()), ()))
  else
  ((mkI 40 size_3_0 size_3_0 (false, ((0, 0, 0, ()), 0, ()), ())).bind fun v_7 =>
  some (.inr (((v_7, 0, most_0_0, ()), ()), ()))).map .inr
noncomputable def exact_New (most_0 : Int) : Option (((Unit × Unit) × (Unit)) ⊕ ((((List (Bool × ((Int × Int × Int × Unit) × Int × Unit) × Unit)) × Int × Int × Unit) × Unit) × (Unit))) :=
  let t5_1 : Bool := decide (most_0 < 1)
  guardR (!t5_1) (some ()) () fun _ =>
  guardR (!t5_1) (some (decide (most_0 > 256))) false fun v_2 =>
  bif (bif t5_1 then true else v_2) then
    some (.inl (((), ()), ()))
  else
  loopR (fun (z : (Int × Int × Unit) × (Unit)) => exact_New_s0 z.1.1 z.1.2.1) ((most_0, 2, ()), ())

/-! ### (*shunter/exact.Map).may -/
noncomputable def exact_Map_may_ca4 (m_0 : (List (Bool × ((Int × Int × Int × Unit) × Int × Unit) × Unit)) × Int × Int × Unit) (key_1 : Int × Int × Int × Unit) : Option ((Bool × Unit) × (((List (Bool × ((Int × Int × Int × Unit) × Int × Unit) × Unit)) × Int × Int × Unit) × Unit)) :=
  (vec_May (key_1.1, key_1.2.1, key_1.2.2.1, ())).bind fun r_1 =>
  some ((r_1.1.1, ()), (m_0.1, m_0.2.1, m_0.2.2.1, ()), ())

/-! ### (*shunter/exact.Map).home -/
noncomputable def exact_Map_home_ca4_s0 (h_5_0 : Int) (t15_15_0 : List Int) (t16_16_0 : Int) (o0_0 : (List (Bool × ((Int × Int × Int × Unit) × Int × Unit) × Unit)) × Int × Int × Unit) : Option (((Int × (List Int) × Int × Unit) × (((List (Bool × ((Int × Int × Int × Unit) × Int × Unit) × Unit)) × Int × Int × Unit) × Unit)) ⊕ ((Int × Unit) × (((List (Bool × ((Int × Int × Int × Unit) × Int × Unit) × Unit)) × Int × Int × Unit) × Unit))) :=
  bif (decide (t16_16_0 < 3)) then
    (rdI t15_15_0 t16_16_0).bind fun v_3 =>
    let t22_5 : Int := IntKind.u64.wrap ((bitsI .xor .u64 h_5_0 v_3) * 1099511628211)
    some (.inl (((bitsI .xor .u64 t22_5 (t22_5.fdiv (2 ^ 32))), t15_15_0, (IntKind.i64.wrap (t16_16_0 + 1)), ()), (o0_0.1, o0_0.2.1, o0_0.2.2.1, ()), ()))
  else
  ((remI h_5_0 (IntKind.u64.wrap (o0_0.1.length : Int))).bind fun v_11 =>
  some (((IntKind.i64.wrap v_11), ()), (o0_0.1, o0_0.2.1, o0_0.2.2.1, ()), ())).map .inr
noncomputable def exact_Map_home_ca4 (m_0 : (List (Bool × ((Int × Int × Int × Unit) × Int × Unit) × Unit)) × Int × Int × Unit) (key_1 : Int × Int × Int × Unit) : Option ((Int × Unit) × (((List (Bool × ((Int × Int × Int × Unit) × Int × Unit) × Unit)) × Int × Int × Unit) × Unit)) :=
  loopR (fun (z : (Int × (List Int) × Int × Unit) × (((List (Bool × ((Int × Int × Int × Unit) × Int × Unit) × Unit)) × Int × Int × Unit) × Unit)) => exact_Map_home_ca4_s0 z.1.1 z.1.2.1 z.1.2.2.1 z.2.1) ((14695981039346656037, [(IntKind.u64.wrap key_1.1), key_1.2.1, key_1.2.2.1], 0, ()), (m_0.1, m_0.2.1, m_0.2.2.1, ()), ())

/-! ### (*shunter/exact.Map).next -/
noncomputable def exact_Map_next_deb (m_0 : (List (Bool × ((Int × Int × Int × Unit) × Int × Unit) × Unit)) × Int × Int × Unit) (i_1 : Int) : Option ((Int × Unit) × (((List (Bool × ((Int × Int × Int × Unit) × Int × Unit) × Unit)) × Int × Int × Unit) × Unit)) :=
  (remI (IntKind.i64.wrap (i_1 + 1)) (m_0.1.length : Int)).bind fun v_3 =>
  some ((v_3, ()), (m_0.1, m_0.2.1, m_0.2.2.1, ()), ())

/-! ### (*shunter/exact.Map).find -/
noncomputable def exact_Map_find_ca4_s0 (i_6_0 : Int) (p3_0_0 : Int × Int × Int × Unit) (o0_0 : (List (Bool × ((Int × Int × Int × Unit) × Int × Unit) × Unit)) × Int × Int × Unit) : Option (((Int × Unit) × ((Int × Int × Int × Unit) × ((List (Bool × ((Int × Int × Int × Unit) × Int × Unit) × Unit)) × Int × Int × Unit) × Unit)) ⊕ ((Int × Bool × Unit) × (((List (Bool × ((Int × Int × Int × Unit) × Int × Unit) × Unit)) × Int × Int × Unit) × Unit))) :=
  (Option.map (fun _ => i_6_0) (ckI i_6_0 o0_0.1.length)).bind fun v_2 =>
  ((rdI o0_0.1 v_2).map (·.1)).bind fun v_3 =>
  bif v_3 then
    (Option.map (fun _ => i_6_0) (ckI i_6_0 o0_0.1.length)).bind fun v_4 =>
    ((((rdI o0_0.1 v_4).map (·.2)).map (·.1)).map (·.1)).bind fun v_5 =>
    bif (decide (v_5.1 = p3_0_0.1) && (decide (v_5.2.1 = p3_0_0.2.1) && decide (v_5.2.2.1 = p3_0_0.2.2.1))) then
      some (.inr ((i_6_0, true, ()), (o0_0.1, o0_0.2.1, o0_0.2.2.1, ()), ()))
    else
    (exact_Map_next_deb (o0_0.1, o0_0.2.1, o0_0.2.2.1, ()) i_6_0).bind fun r_7 =>
    some (.inl ((r_7.1.1, ()), (p3_0_0.1, p3_0_0.2.1, p3_0_0.2.2.1, ()), r_7.2.1, ()))
  else
  some (.inr ((i_6_0, false, ()), (o0_0.1, o0_0.2.1, o0_0.2.2.1, ()), ()))
noncomputable def exact_Map_find_ca4 (m_0 : (List (Bool × ((Int × Int × Int × Unit) × Int × Unit) × Unit)) × Int × Int × Unit) (key_1 : Int × Int × Int × Unit) : Option ((Int × Bool × Unit) × (((List (Bool × ((Int × Int × Int × Unit) × Int × Unit) × Unit)) × Int × Int × Unit) × Unit)) :=
  (exact_Map_home_ca4 (m_0.1, m_0.2.1, m_0.2.2.1, ()) (key_1.1, key_1.2.1, key_1.2.2.1, ())).bind fun r_1 =>
  loopR (fun (z : (Int × Unit) × ((Int × Int × Int × Unit) × ((List (Bool × ((Int × Int × Int × Unit) × Int × Unit) × Unit)) × Int × Int × Unit) × Unit)) => exact_Map_find_ca4_s0 z.1.1 z.2.1 z.2.2.1) ((r_1.1.1, ()), (key_1.1, key_1.2.1, key_1.2.2.1, ()), r_1.2.1, ())

/-! ### (*shunter/exact.Map).Put -/
noncomputable def exact_Map_Put_767 (m_0 : (List (Bool × ((Int × Int × Int × Unit) × Int × Unit) × Unit)) × Int × Int × Unit) (key_1 : Int × Int × Int × Unit) (n_2 : Int) : Option ((Int × Unit) × (((List (Bool × ((Int × Int × Int × Unit) × Int × Unit) × Unit)) × Int × Int × Unit) × Unit)) :=
  (exact_Map_may_ca4 (m_0.1, m_0.2.1, m_0.2.2.1, ()) (key_1.1, key_1.2.1, key_1.2.2.1, ())).bind fun r_1 =>
  bif !r_1.1.1 then
    some ((1, ()), r_1.2.1, ())
  else
  (exact_Map_find_ca4 r_1.2.1 (key_1.1, key_1.2.1, key_1.2.2.1, ())).bind fun r_2 =>
  bif r_2.1.2.1 then
    some ((6, ()), r_2.2.1, ())
  else
  bif (decide (r_2.2.1.2.1 = r_2.2.1.2.2.1)) then
    some ((8, ()), r_2.2.1, ())
  else
  (Option.map (fun _ => r_2.1.1) (ckI r_2.1.1 r_2.2.1.1.length)).bind fun v_4 =>
  ((stI r_2.2.1.1 v_4 (true, ((key_1.1, key_1.2.1, key_1.2.2.1, ()), n_2, ()), ())).map fun w => (w, r_2.2.1.2)).bind fun v_5 =>
  some ((0, ()), (v_5.1, (IntKind.i64.wrap (v_5.2.1 + 1)), v_5.2.2), ())

/-! ### (*shunter/exact.Map).Get -/
noncomputable def exact_Map_Get_ca4 (m_0 : (List (Bool × ((Int × Int × Int × Unit) × Int × Unit) × Unit)) × Int × Int × Unit) (key_1 : Int × Int × Int × Unit) : Option ((Int × Bool × Unit) × (((List (Bool × ((Int × Int × Int × Unit) × Int × Unit) × Unit)) × Int × Int × Unit) × Unit)) :=
  (exact_Map_may_ca4 (m_0.1, m_0.2.1, m_0.2.2.1, ()) (key_1.1, key_1.2.1, key_1.2.2.1, ())).bind fun r_1 =>
  bif !r_1.1.1 then
    some ((0, false, ()), r_1.2.1, ())
  else
  (exact_Map_find_ca4 r_1.2.1 (key_1.1, key_1.2.1, key_1.2.2.1, ())).bind fun r_2 =>
  (Option.map (fun _ => r_2.1.1) (ckI r_2.1.1 r_2.2.1.1.length)).bind fun v_3 =>
  (((((rdI r_2.2.1.1 v_3).map (·.2)).map (·.1)).map (·.2)).map (·.1)).bind fun v_4 =>
  some ((v_4, r_2.1.2.1, ()), r_2.2.1, ())

/-! ### (*shunter/exact.Map).Set -/
noncomputable def exact_Map_Set_767 (m_0 : (List (Bool × ((Int × Int × Int × Unit) × Int × Unit) × Unit)) × Int × Int × Unit) (key_1 : Int × Int × Int × Unit) (n_2 : Int) : Option ((Int × Unit) × (((List (Bool × ((Int × Int × Int × Unit) × Int × Unit) × Unit)) × Int × Int × Unit) × Unit)) :=
  (exact_Map_may_ca4 (m_0.1, m_0.2.1, m_0.2.2.1, ()) (key_1.1, key_1.2.1, key_1.2.2.1, ())).bind fun r_1 =>
  bif !r_1.1.1 then
    some ((1, ()), r_1.2.1, ())
  else
  (exact_Map_find_ca4 r_1.2.1 (key_1.1, key_1.2.1, key_1.2.2.1, ())).bind fun r_2 =>
  bif !r_2.1.2.1 then
    some ((5, ()), r_2.2.1, ())
  else
  (Option.map (fun _ => r_2.1.1) (ckI r_2.1.1 r_2.2.1.1.length)).bind fun v_3 =>
  ((((rdI r_2.2.1.1 v_3).bind fun v => (((rdI r_2.2.1.1 v_3).map (·.2)).bind fun v => ((((rdI r_2.2.1.1 v_3).map (·.2)).map (·.1)).bind fun v => (((((rdI r_2.2.1.1 v_3).map (·.2)).map (·.1)).map (·.2)).map fun v => (n_2, v.2)).map fun w => (v.1, w)).map fun w => (w, v.2)).map fun w => (v.1, w)).bind fun v => stI r_2.2.1.1 v_3 v).map fun w => (w, r_2.2.1.2)).bind fun v_4 =>
  some ((0, ()), v_4, ())

/-! ### shunter/exact.between -/
noncomputable def exact_between (i_0 : Int) (from_1 : Int) (to_2 : Int) : Option ((Bool × Unit) × (Unit)) :=
  bif (decide (from_1 ≤ to_2)) then
    let t12_2 : Bool := decide (i_0 > from_1)
    guardR t12_2 (some ()) () fun _ =>
    guardR t12_2 (some ()) () fun _ =>
    guardR t12_2 (some (decide (i_0 ≤ to_2))) false fun v_3 =>
    some (((bif t12_2 then v_3 else false), ()), ())
  else
  let t20_5 : Bool := decide (i_0 > from_1)
  guardR (!t20_5) (some ()) () fun _ =>
  guardR (!t20_5) (some ()) () fun _ =>
  guardR (!t20_5) (some (decide (i_0 ≤ to_2))) false fun v_6 =>
  some (((bif t20_5 then true else v_6), ()), ())

/-! ### (*shunter/exact.Map).close -/
noncomputable def exact_Map_close_deb_s0 (gap_1_0 : Int) (i_4_0 : Int) (o0_0 : (List (Bool × ((Int × Int × Int × Unit) × Int × Unit) × Unit)) × Int × Int × Unit) : Option (((Int × Int × Unit) × (((List (Bool × ((Int × Int × Int × Unit) × Int × Unit) × Unit)) × Int × Int × Unit) × Unit)) ⊕ ((Unit) × (((List (Bool × ((Int × Int × Int × Unit) × Int × Unit) × Unit)) × Int × Int × Unit) × Unit))) :=
  (Option.map (fun _ => i_4_0) (ckI i_4_0 o0_0.1.length)).bind fun v_2 =>
  ((rdI o0_0.1 v_2).map (·.1)).bind fun v_3 =>
  bif v_3 then
    (Option.map (fun _ => i_4_0) (ckI i_4_0 o0_0.1.length)).bind fun v_4 =>
    ((((rdI o0_0.1 v_4).map (·.2)).map (·.1)).map (·.1)).bind fun v_5 =>
    (exact_Map_home_ca4 (o0_0.1, o0_0.2.1, o0_0.2.2.1, ()) v_5).bind fun r_6 =>
    (exact_between r_6.1.1 gap_1_0 i_4_0).bind fun r_7 =>
    bif r_7.1.1 then
      (exact_Map_next_deb r_6.2.1 i_4_0).bind fun r_8 =>
      some (.inl ((gap_1_0, r_8.1.1, ()), r_8.2.1, ()))
    else
    (Option.map (fun _ => i_4_0) (ckI i_4_0 r_6.2.1.1.length)).bind fun v_9 =>
    (rdI r_6.2.1.1 v_9).bind fun v_10 =>
    (Option.map (fun _ => gap_1_0) (ckI gap_1_0 r_6.2.1.1.length)).bind fun v_11 =>
    ((stI r_6.2.1.1 v_11 v_10).map fun w => (w, r_6.2.1.2)).bind fun v_12 =>
    (Option.map (fun _ => i_4_0) (ckI i_4_0 v_12.1.length)).bind fun v_13 =>
    ((stI v_12.1 v_13 (false, ((0, 0, 0, ()), 0, ()), ())).map fun w => (w, v_12.2)).bind fun v_14 =>
    (exact_Map_next_deb v_14 i_4_0).bind fun r_15 =>
    some (.inl ((i_4_0, r_15.1.1, ()), r_15.2.1, ()))
  else
  some (.inr ((), (o0_0.1, o0_0.2.1, o0_0.2.2.1, ()), ()))
noncomputable def exact_Map_close_deb (m_0 : (List (Bool × ((Int × Int × Int × Unit) × Int × Unit) × Unit)) × Int × Int × Unit) (gap_1 : Int) : Option ((Unit) × (((List (Bool × ((Int × Int × Int × Unit) × Int × Unit) × Unit)) × Int × Int × Unit) × Unit)) :=
  (exact_Map_next_deb (m_0.1, m_0.2.1, m_0.2.2.1, ()) gap_1).bind fun r_1 =>
  loopR (fun (z : (Int × Int × Unit) × (((List (Bool × ((Int × Int × Int × Unit) × Int × Unit) × Unit)) × Int × Int × Unit) × Unit)) => exact_Map_close_deb_s0 z.1.1 z.1.2.1 z.2.1) ((gap_1, r_1.1.1, ()), r_1.2.1, ())

/-! ### (*shunter/exact.Map).Drop -/
noncomputable def exact_Map_Drop_ca4 (m_0 : (List (Bool × ((Int × Int × Int × Unit) × Int × Unit) × Unit)) × Int × Int × Unit) (key_1 : Int × Int × Int × Unit) : Option ((Int × Unit) × (((List (Bool × ((Int × Int × Int × Unit) × Int × Unit) × Unit)) × Int × Int × Unit) × Unit)) :=
  (exact_Map_may_ca4 (m_0.1, m_0.2.1, m_0.2.2.1, ()) (key_1.1, key_1.2.1, key_1.2.2.1, ())).bind fun r_1 =>
  bif !r_1.1.1 then
    some ((1, ()), r_1.2.1, ())
  else
  (exact_Map_find_ca4 r_1.2.1 (key_1.1, key_1.2.1, key_1.2.2.1, ())).bind fun r_2 =>
  bif !r_2.1.2.1 then
    some ((5, ()), r_2.2.1, ())
  else
  (Option.map (fun _ => r_2.1.1) (ckI r_2.1.1 r_2.2.1.1.length)).bind fun v_3 =>
  ((stI r_2.2.1.1 v_3 (false, ((0, 0, 0, ()), 0, ()), ())).map fun w => (w, r_2.2.1.2)).bind fun v_4 =>
  (exact_Map_close_deb (v_4.1, (IntKind.i64.wrap (v_4.2.1 - 1)), v_4.2.2) r_2.1.1).bind fun r_6 =>
  some ((0, ()), r_6.2.1, ())

/-! ### shunter/shunterref19.Find -/
noncomputable def ref19_Find_s0 (l_0_0 : List ((Int × Int × Int × Unit) × Int × Unit)) (i_5_0 : Int) (p3_0_0 : Int × Int × Int × Unit) : Option ((((List ((Int × Int × Int × Unit) × Int × Unit)) × Int × Unit) × ((Int × Int × Int × Unit) × Unit)) ⊕ ((Int × Unit) × (Unit))) :=
  bif (decide (i_5_0 < (l_0_0.length : Int))) then
    (rdI l_0_0 i_5_0).bind fun v_3 =>
    bif (decide (v_3.1.1 = p3_0_0.1) && (decide (v_3.1.2.1 = p3_0_0.2.1) && decide (v_3.1.2.2.1 = p3_0_0.2.2.1))) then
      some (.inr ((i_5_0, ()), ()))
    else
    some (.inl ((l_0_0, (IntKind.i64.wrap (i_5_0 + 1)), ()), (p3_0_0.1, p3_0_0.2.1, p3_0_0.2.2.1, ()), ()))
  else
  some (.inr (((-1), ()), ()))
noncomputable def ref19_Find (l_0 : List ((Int × Int × Int × Unit) × Int × Unit)) (key_1 : Int × Int × Int × Unit) : Option ((Int × Unit) × (Unit)) :=
  loopR (fun (z : ((List ((Int × Int × Int × Unit) × Int × Unit)) × Int × Unit) × ((Int × Int × Int × Unit) × Unit)) => ref19_Find_s0 z.1.1 z.1.2.1 z.2.1) ((l_0, 0, ()), (key_1.1, key_1.2.1, key_1.2.2.1, ()), ())

/-! ### shunter/shunterref19.Put -/
noncomputable def ref19_Put (l_0 : List ((Int × Int × Int × Unit) × Int × Unit)) (most_1 : Int) (key_2 : Int × Int × Int × Unit) (n_3 : Int) : Option (((List ((Int × Int × Int × Unit) × Int × Unit)) × Int × Unit) × (Unit)) :=
  (ref02_May (key_2.1, key_2.2.1, key_2.2.2.1, ())).bind fun r_1 =>
  bif !r_1.1.1 then
    some ((l_0, 1, ()), ())
  else
  (ref19_Find l_0 (key_2.1, key_2.2.1, key_2.2.2.1, ())).bind fun r_2 =>
  bif (decide (r_2.1.1 ≥ 0)) then
    some ((l_0, 6, ()), ())
  else
  bif (decide ((l_0.length : Int) ≥ most_1)) then
    some ((l_0, 8, ()), ())
  else
  (roomI 32 ([] : List ((Int × Int × Int × Unit) × Int × Unit)) l_0).bind fun v_6 =>
  (roomI 32 v_6 [((key_2.1, key_2.2.1, key_2.2.2.1, ()), n_3, ())]).bind fun v_7 =>
  some ((v_7, 0, ()), ())

/-! ### shunter/shunterref19.Set -/
noncomputable def ref19_Set (l_0 : List ((Int × Int × Int × Unit) × Int × Unit)) (key_1 : Int × Int × Int × Unit) (n_2 : Int) : Option (((List ((Int × Int × Int × Unit) × Int × Unit)) × Int × Unit) × (Unit)) :=
  (ref02_May (key_1.1, key_1.2.1, key_1.2.2.1, ())).bind fun r_1 =>
  bif !r_1.1.1 then
    some ((l_0, 1, ()), ())
  else
  (ref19_Find l_0 (key_1.1, key_1.2.1, key_1.2.2.1, ())).bind fun r_2 =>
  bif (decide (r_2.1.1 < 0)) then
    some ((l_0, 5, ()), ())
  else
  (roomI 32 ([] : List ((Int × Int × Int × Unit) × Int × Unit)) l_0).bind fun v_4 =>
  (Option.map (fun _ => r_2.1.1) (ckI r_2.1.1 v_4.length)).bind fun v_5 =>
  (((rdI v_4 v_5).bind fun v => (((rdI v_4 v_5).map (·.2)).map fun v => (n_2, v.2)).map fun w => (v.1, w)).bind fun v => stI v_4 v_5 v).bind fun v_6 =>
  some ((v_6, 0, ()), ())

/-! ### shunter/shunterref19.Drop -/
noncomputable def ref19_Drop (l_0 : List ((Int × Int × Int × Unit) × Int × Unit)) (key_1 : Int × Int × Int × Unit) : Option (((List ((Int × Int × Int × Unit) × Int × Unit)) × Int × Unit) × (Unit)) :=
  (ref02_May (key_1.1, key_1.2.1, key_1.2.2.1, ())).bind fun r_1 =>
  bif !r_1.1.1 then
    some ((l_0, 1, ()), ())
  else
  (ref19_Find l_0 (key_1.1, key_1.2.1, key_1.2.2.1, ())).bind fun r_2 =>
  bif (decide (r_2.1.1 < 0)) then
    some ((l_0, 5, ()), ())
  else
  (subL l_0 0 r_2.1.1).bind fun v_4 =>
  (roomI 32 ([] : List ((Int × Int × Int × Unit) × Int × Unit)) v_4).bind fun v_5 =>
  (subL l_0 (IntKind.i64.wrap (r_2.1.1 + 1)) (l_0.length : Int)).bind fun v_7 =>
  (roomI 32 v_5 v_7).bind fun v_8 =>
  some ((v_8, 0, ()), ())

/-! ### (*shunter/exact.Map).Len -/
noncomputable def exact_Map_Len_bb9 (m_0 : (List (Bool × ((Int × Int × Int × Unit) × Int × Unit) × Unit)) × Int × Int × Unit) : Option ((Int × Unit) × (((List (Bool × ((Int × Int × Int × Unit) × Int × Unit) × Unit)) × Int × Int × Unit) × Unit)) :=
  some ((m_0.2.1, ()), (m_0.1, m_0.2.1, m_0.2.2.1, ()), ())

/-! ### (*shunter/exact.Map).Room -/
noncomputable def exact_Map_Room_bb9 (m_0 : (List (Bool × ((Int × Int × Int × Unit) × Int × Unit) × Unit)) × Int × Int × Unit) : Option ((Int × Unit) × (((List (Bool × ((Int × Int × Int × Unit) × Int × Unit) × Unit)) × Int × Int × Unit) × Unit)) :=
  some (((IntKind.i64.wrap (m_0.2.2.1 - m_0.2.1)), ()), (m_0.1, m_0.2.1, m_0.2.2.1, ()), ())

end Go.L
