/- The functions that the statements reach as plain Lean, and what they compute. -/
import Derived.Test.YtnaclmcmicckeaaQ6

set_option linter.unusedSimpArgs false
set_option linter.unusedVariables false

namespace Go.L
open Go Go.Pv
set_option maxRecDepth 100000

/-! ### shunter/exact.New -/
noncomputable def exact_New_s0 (most_0_0 : Int) (size_3_0 : Int) : Option (((Int × Int × Unit) × (Unit)) ⊕ (((Unit × Unit) × (Unit)) ⊕ ((((List (Bool × ((Int × Int × Int × Unit) × Int × Unit) × Unit)) × Int × Int × Unit) × Unit) × (Unit)))) :=
  bif (decide (size_3_0 < (IntKind.i64.wrap (2 * most_0_0)))) then
    some (.inl ((most_0_0, (IntKind.i64.wrap (size_3_0 * 2)), ()), ()))
  else
  ((mkI 40 size_3_0 size_3_0 (false, ((0, 0, 0, ()), 0, ()), ())).bind fun v_7 =>
  some (.inr (((v_7, 0, most_0_0, ()), ()), ()))).map .inr
noncomputable def exact_New (most_0 : Int) : Option (((Unit × Unit) × (Unit)) ⊕ ((((List (Bool × ((Int × Int × Int × Unit) × Int × Unit) × Unit)) × Int × Int × Unit) × Unit) × (Unit))) :=
  let t5_1 : Bool := decide (most_0 < 1)
  guardR (!t5_1) (some ()) () fun _ =>
  guardR (!t5_1) (some (decide (most_0 > 256))) false fun v_2 =>
  bif (bif t5_1 then true else v_2) then
    some (.inl (((), ()), ()))
  else
  loopR (fun (z : (Int × Int × Unit) × (Unit)) => exact_New_s0 z.1.1 z.1.2.1) ((most_0, 2, ()), ())

/-! ### (*shunter/exact.Map).may -/
noncomputable def exact_Map_may_ca4 (m_0 : (List (Bool × ((Int × Int × Int × Unit) × Int × Unit) × Unit)) × Int × Int × Unit) (key_1 : Int × Int × Int × Unit) : Option ((Bool × Unit) × (((List (Bool × ((Int × Int × Int × Unit) × Int × Unit) × Unit)) × Int × Int × Unit) × Unit)) :=
  (vec_May (key_1.1, key_1.2.1, key_1.2.2.1, ())).bind fun r_1 =>
  some ((r_1.1.1, ()), (m_0.1, m_0.2.1, m_0.2.2.1, ()), ())

/-! ### (*shunter/exact.Map).home -/
noncomputable def exact_Map_home_ca4_s0 (h_5_0 : Int) (t15_15_0 : List Int) (t16_16_0 : Int) (o0_0 : (List (Bool × ((Int × Int × Int × Unit) × Int × Unit) × Unit)) × Int × Int × Unit) : Option (((Int × (List Int) × Int × Unit) × (((List (Bool × ((Int × Int × Int × Unit) × Int × Unit) × Unit)) × Int × Int × Unit) × Unit)) ⊕ ((Int × Unit) × (((List (Bool × ((Int × Int × Int × Unit) × Int × Unit) × Unit)) × Int × Int × Unit) × Unit))) :=
  bif (decide (t16_16_0 < 3)) then
    (rdI t15_15_0 t16_16_0).bind fun v_3 =>
    let t22_5 : Int := IntKind.u64.wrap ((bitsI .xor .u64 h_5_0 v_3) * 1099511628211)
    some (.inl (((bitsI .xor .u64 t22_5 (t22_5.fdiv (2 ^ 32))), t15_15_0, (IntKind.i64.wrap (t16_16_0 + 1)), ()), (o0_0.1, o0_0.2.1, o0_0.2.2.1, ()), ()))
  else
  ((remI h_5_0 (IntKind.u64.wrap (o0_0.1.length : Int))).bind fun v_11 =>
  some (((IntKind.i64.wrap v_11), ()), (o0_0.1, o0_0.2.1, o0_0.2.2.1, ()), ())).map .inr
noncomputable def exact_Map_home_ca4 (m_0 : (List (Bool × ((Int × Int × Int × Unit) × Int × Unit) × Unit)) × Int × Int × Unit) (key_1 : Int × Int × Int × Unit) : Option ((Int × Unit) × (((List (Bool × ((Int × Int × Int × Unit) × Int × Unit) × Unit)) × Int × Int × Unit) × Unit)) :=
  loopR (fun (z : (Int × (List Int) × Int × Unit) × (((List (Bool × ((Int × Int × Int × Unit) × Int × Unit) × Unit)) × Int × Int × Unit) × Unit)) => exact_Map_home_ca4_s0 z.1.1 z.1.2.1 z.1.2.2.1 z.2.1) ((14695981039346656037, [(IntKind.u64.wrap key_1.1), key_1.2.1, key_1.2.2.1], 0, ()), (m_0.1, m_0.2.1, m_0.2.2.1, ()), ())

/-! ### (*shunter/exact.Map).next -/
noncomputable def exact_Map_next_deb (m_0 : (List (Bool × ((Int × Int × Int × Unit) × Int × Unit) × Unit)) × Int × Int × Unit) (i_1 : Int) : Option ((Int × Unit) × (((List (Bool × ((Int × Int × Int × Unit) × Int × Unit) × Unit)) × Int × Int × Unit) × Unit)) :=
  (remI (IntKind.i64.wrap (i_1 + 1)) (m_0.1.length : Int)).bind fun v_3 =>
  some ((v_3, ()), (m_0.1, m_0.2.1, m_0.2.2.1, ()), ())

/-! ### (*shunter/exact.Map).find -/
noncomputable def exact_Map_find_ca4_s0 (i_6_0 : Int) (p3_0_0 : Int × Int × Int × Unit) (o0_0 : (List (Bool × ((Int × Int × Int × Unit) × Int × Unit) × Unit)) × Int × Int × Unit) : Option (((Int × Unit) × ((Int × Int × Int × Unit) × ((List (Bool × ((Int × Int × Int × Unit) × Int × Unit) × Unit)) × Int × Int × Unit) × Unit)) ⊕ ((Int × Bool × Unit) × (((List (Bool × ((Int × Int × Int × Unit) × Int × Unit) × Unit)) × Int × Int × Unit) × Unit))) :=
  (Option.map (fun _ => i_6_0) (ckI i_6_0 o0_0.1.length)).bind fun v_2 =>
  ((rdI o0_0.1 v_2).map (·.1)).bind fun v_3 =>
  bif v_3 then
    (Option.map (fun _ => i_6_0) (ckI i_6_0 o0_0.1.length)).bind fun v_4 =>
    ((((rdI o0_0.1 v_4).map (·.2)).map (·.1)).map (·.1)).bind fun v_5 =>
    bif (decide (v_5.1 = p3_0_0.1) && (decide (v_5.2.1 = p3_0_0.2.1) && decide (v_5.2.2.1 = p3_0_0.2.2.1))) then
      some (.inr ((i_6_0, true, ()), (o0_0.1, o0_0.2.1, o0_0.2.2.1, ()), ()))
    else
    (exact_Map_next_deb (o0_0.1, o0_0.2.1, o0_0.2.2.1, ()) i_6_0).bind fun r_7 =>
    some (.inl ((r_7.1.1, ()), (p3_0_0.1, p3_0_0.2.1, p3_0_0.2.2.1, ()), r_7.2.1, ()))
  else
  some (.inr ((i_6_0, false, ()), (o0_0.1, o0_0.2.1, o0_0.2.2.1, ()), ()))
noncomputable def exact_Map_find_ca4 (m_0 : (List (Bool × ((Int × Int × Int × Unit) × Int × Unit) × Unit)) × Int × Int × Unit) (key_1 : Int × Int × Int × Unit) : Option ((Int × Bool × Unit) × (((List (Bool × ((Int × Int × Int × Unit) × Int × Unit) × Unit)) × Int × Int × Unit) × Unit)) :=
  (exact_Map_home_ca4 (m_0.1, m_0.2.1, m_0.2.2.1, ()) (key_1.1, key_1.2.1, key_1.2.2.1, ())).bind fun r_1 =>
  loopR (fun (z : (Int × Unit) × ((Int × Int × Int × Unit) × ((List (Bool × ((Int × Int × Int × Unit) × Int × Unit) × Unit)) × Int × Int × Unit) × Unit)) => exact_Map_find_ca4_s0 z.1.1 z.2.1 z.2.2.1) ((r_1.1.1, ()), (key_1.1, key_1.2.1, key_1.2.2.1, ()), r_1.2.1, ())

/-! ### (*shunter/exact.Map).Put -/
noncomputable def exact_Map_Put_767 (m_0 : (List (Bool × ((Int × Int × Int × Unit) × Int × Unit) × Unit)) × Int × Int × Unit) (key_1 : Int × Int × Int × Unit) (n_2 : Int) : Option ((Int × Unit) × (((List (Bool × ((Int × Int × Int × Unit) × Int × Unit) × Unit)) × Int × Int × Unit) × Unit)) :=
  (exact_Map_may_ca4 (m_0.1, m_0.2.1, m_0.2.2.1, ()) (key_1.1, key_1.2.1, key_1.2.2.1, ())).bind fun r_1 =>
  bif !r_1.1.1 then
    some ((1, ()), r_1.2.1, ())
  else
  (exact_Map_find_ca4 r_1.2.1 (key_1.1, key_1.2.1, key_1.2.2.1, ())).bind fun r_2 =>
  bif r_2.1.2.1 then
    some ((6, ()), r_2.2.1, ())
  else
  bif (decide (r_2.2.1.2.1 = r_2.2.1.2.2.1)) then
    some ((8, ()), r_2.2.1, ())
  else
  (Option.map (fun _ => r_2.1.1) (ckI r_2.1.1 r_2.2.1.1.length)).bind fun v_4 =>
  ((stI r_2.2.1.1 v_4 (true, ((key_1.1, key_1.2.1, key_1.2.2.1, ()), n_2, ()), ())).map fun w => (w, r_2.2.1.2)).bind fun v_5 =>
  some ((0, ()), (v_5.1, (IntKind.i64.wrap (v_5.2.1 + 1)), v_5.2.2), ())

/-! ### (*shunter/exact.Map).Get -/
noncomputable def exact_Map_Get_ca4 (m_0 : (List (Bool × ((Int × Int × Int × Unit) × Int × Unit) × Unit)) × Int × Int × Unit) (key_1 : Int × Int × Int × Unit) : Option ((Int × Bool × Unit) × (((List (Bool × ((Int × Int × Int × Unit) × Int × Unit) × Unit)) × Int × Int × Unit) × Unit)) :=
  (exact_Map_may_ca4 (m_0.1, m_0.2.1, m_0.2.2.1, ()) (key_1.1, key_1.2.1, key_1.2.2.1, ())).bind fun r_1 =>
  bif !r_1.1.1 then
    some ((0, false, ()), r_1.2.1, ())
  else
  (exact_Map_find_ca4 r_1.2.1 (key_1.1, key_1.2.1, key_1.2.2.1, ())).bind fun r_2 =>
  (Option.map (fun _ => r_2.1.1) (ckI r_2.1.1 r_2.2.1.1.length)).bind fun v_3 =>
  (((((rdI r_2.2.1.1 v_3).map (·.2)).map (·.1)).map (·.2)).map (·.1)).bind fun v_4 =>
  some ((v_4, r_2.1.2.1, ()), r_2.2.1, ())

/-! ### (*shunter/exact.Map).Set -/
noncomputable def exact_Map_Set_767 (m_0 : (List (Bool × ((Int × Int × Int × Unit) × Int × Unit) × Unit)) × Int × Int × Unit) (key_1 : Int × Int × Int × Unit) (n_2 : Int) : Option ((Int × Unit) × (((List (Bool × ((Int × Int × Int × Unit) × Int × Unit) × Unit)) × Int × Int × Unit) × Unit)) :=
  (exact_Map_may_ca4 (m_0.1, m_0.2.1, m_0.2.2.1, ()) (key_1.1, key_1.2.1, key_1.2.2.1, ())).bind fun r_1 =>
  bif !r_1.1.1 then
    some ((1, ()), r_1.2.1, ())
  else
  (exact_Map_find_ca4 r_1.2.1 (key_1.1, key_1.2.1, key_1.2.2.1, ())).bind fun r_2 =>
  bif !r_2.1.2.1 then
    some ((5, ()), r_2.2.1, ())
  else
  (Option.map (fun _ => r_2.1.1) (ckI r_2.1.1 r_2.2.1.1.length)).bind fun v_3 =>
  ((((rdI r_2.2.1.1 v_3).bind fun v => (((rdI r_2.2.1.1 v_3).map (·.2)).bind fun v => ((((rdI r_2.2.1.1 v_3).map (·.2)).map (·.1)).bind fun v => (((((rdI r_2.2.1.1 v_3).map (·.2)).map (·.1)).map (·.2)).map fun v => (n_2, v.2)).map fun w => (v.1, w)).map fun w => (w, v.2)).map fun w => (v.1, w)).bind fun v => stI r_2.2.1.1 v_3 v).map fun w => (w, r_2.2.1.2)).bind fun v_4 =>
  some ((0, ()), v_4, ())

/-! ### shunter/exact.between -/
noncomputable def exact_between (i_0 : Int) (from_1 : Int) (to_2 : Int) : Option ((Bool × Unit) × (Unit)) :=
  bif (decide (from_1 ≤ to_2)) then
    let t12_2 : Bool := decide (i_0 > from_1)
    guardR t12_2 (some ()) () fun _ =>
    guardR t12_2 (some ()) () fun _ =>
    guardR t12_2 (some (decide (i_0 ≤ to_2))) false fun v_3 =>
    some (((bif t12_2 then v_3 else false), ()), ())
  else
  let t20_5 : Bool := decide (i_0 > from_1)
  guardR (!t20_5) (some ()) () fun _ =>
  guardR (!t20_5) (some ()) () fun _ =>
  guardR (!t20_5) (some (decide (i_0 ≤ to_2))) false fun v_6 =>
  some (((bif t20_5 then true else v_6), ()), ())

/-! ### (*shunter/exact.Map).close -/
noncomputable def exact_Map_close_deb_s0 (gap_1_0 : Int) (i_4_0 : Int) (o0_0 : (List (Bool × ((Int × Int × Int × Unit) × Int × Unit) × Unit)) × Int × Int × Unit) : Option (((Int × Int × Unit) × (((List (Bool × ((Int × Int × Int × Unit) × Int × Unit) × Unit)) × Int × Int × Unit) × Unit)) ⊕ ((Unit) × (((List (Bool × ((Int × Int × Int × Unit) × Int × Unit) × Unit)) × Int × Int × Unit) × Unit))) :=
  (Option.map (fun _ => i_4_0) (ckI i_4_0 o0_0.1.length)).bind fun v_2 =>
  ((rdI o0_0.1 v_2).map (·.1)).bind fun v_3 =>
  bif v_3 then
    (Option.map (fun _ => i_4_0) (ckI i_4_0 o0_0.1.length)).bind fun v_4 =>
    ((((rdI o0_0.1 v_4).map (·.2)).map (·.1)).map (·.1)).bind fun v_5 =>
    (exact_Map_home_ca4 (o0_0.1, o0_0.2.1, o0_0.2.2.1, ()) v_5).bind fun r_6 =>
    (exact_between r_6.1.1 gap_1_0 i_4_0).bind fun r_7 =>
    bif r_7.1.1 then
      (exact_Map_next_deb r_6.2.1 i_4_0).bind fun r_8 =>
      some (.inl ((gap_1_0, r_8.1.1, ()), r_8.2.1, ()))
    else
    (Option.map (fun _ => i_4_0) (ckI i_4_0 r_6.2.1.1.length)).bind fun v_9 =>
    (rdI r_6.2.1.1 v_9).bind fun v_10 =>
    (Option.map (fun _ => gap_1_0) (ckI gap_1_0 r_6.2.1.1.length)).bind fun v_11 =>
    ((stI r_6.2.1.1 v_11 v_10).map fun w => (w, r_6.2.1.2)).bind fun v_12 =>
    (Option.map (fun _ => i_4_0) (ckI i_4_0 v_12.1.length)).bind fun v_13 =>
    ((stI v_12.1 v_13 (false, ((0, 0, 0, ()), 0, ()), ())).map fun w => (w, v_12.2)).bind fun v_14 =>
    (exact_Map_next_deb v_14 i_4_0).bind fun r_15 =>
    some (.inl ((i_4_0, r_15.1.1, ()), r_15.2.1, ()))
  else
  some (.inr ((), (o0_0.1, o0_0.2.1, o0_0.2.2.1, ()), ()))
noncomputable def exact_Map_close_deb (m_0 : (List (Bool × ((Int × Int × Int × Unit) × Int × Unit) × Unit)) × Int × Int × Unit) (gap_1 : Int) : Option ((Unit) × (((List (Bool × ((Int × Int × Int × Unit) × Int × Unit) × Unit)) × Int × Int × Unit) × Unit)) :=
  (exact_Map_next_deb (m_0.1, m_0.2.1, m_0.2.2.1, ()) gap_1).bind fun r_1 =>
  loopR (fun (z : (Int × Int × Unit) × (((List (Bool × ((Int × Int × Int × Unit) × Int × Unit) × Unit)) × Int × Int × Unit) × Unit)) => exact_Map_close_deb_s0 z.1.1 z.1.2.1 z.2.1) ((gap_1, r_1.1.1, ()), r_1.2.1, ())

/-! ### (*shunter/exact.Map).Drop -/
noncomputable def exact_Map_Drop_ca4 (m_0 : (List (Bool × ((Int × Int × Int × Unit) × Int × Unit) × Unit)) × Int × Int × Unit) (key_1 : Int × Int × Int × Unit) : Option ((Int × Unit) × (((List (Bool × ((Int × Int × Int × Unit) × Int × Unit) × Unit)) × Int × Int × Unit) × Unit)) :=
  (exact_Map_may_ca4 (m_0.1, m_0.2.1, m_0.2.2.1, ()) (key_1.1, key_1.2.1, key_1.2.2.1, ())).bind fun r_1 =>
  bif !r_1.1.1 then
    some ((1, ()), r_1.2.1, ())
  else
  (exact_Map_find_ca4 r_1.2.1 (key_1.1, key_1.2.1, key_1.2.2.1, ())).bind fun r_2 =>
  bif !r_2.1.2.1 then
    some ((5, ()), r_2.2.1, ())
  else
  (Option.map (fun _ => r_2.1.1) (ckI r_2.1.1 r_2.2.1.1.length)).bind fun v_3 =>
  ((stI r_2.2.1.1 v_3 (false, ((0, 0, 0, ()), 0, ()), ())).map fun w => (w, r_2.2.1.2)).bind fun v_4 =>
  (exact_Map_close_deb (v_4.1, (IntKind.i64.wrap (v_4.2.1 - 1)), v_4.2.2) r_2.1.1).bind fun r_6 =>
  some ((0, ()), r_6.2.1, ())

/-! ### shunter/shunterref19.Find -/
noncomputable def ref19_Find_s0 (l_0_0 : List ((Int × Int × Int × Unit) × Int × Unit)) (i_5_0 : Int) (p3_0_0 : Int × Int × Int × Unit) : Option ((((List ((Int × Int × Int × Unit) × Int × Unit)) × Int × Unit) × ((Int × Int × Int × Unit) × Unit)) ⊕ ((Int × Unit) × (Unit))) :=
  bif (decide (i_5_0 < (l_0_0.length : Int))) then
    (rdI l_0_0 i_5_0).bind fun v_3 =>
    bif (decide (v_3.1.1 = p3_0_0.1) && (decide (v_3.1.2.1 = p3_0_0.2.1) && decide (v_3.1.2.2.1 = p3_0_0.2.2.1))) then
      some (.inr ((i_5_0, ()), ()))
    else
    some (.inl ((l_0_0, (IntKind.i64.wrap (i_5_0 + 1)), ()), (p3_0_0.1, p3_0_0.2.1, p3_0_0.2.2.1, ()), ()))
  else
  some (.inr (((-1), ()), ()))
noncomputable def ref19_Find (l_0 : List ((Int × Int × Int × Unit) × Int × Unit)) (key_1 : Int × Int × Int × Unit) : Option ((Int × Unit) × (Unit)) :=
  loopR (fun (z : ((List ((Int × Int × Int × Unit) × Int × Unit)) × Int × Unit) × ((Int × Int × Int × Unit) × Unit)) => ref19_Find_s0 z.1.1 z.1.2.1 z.2.1) ((l_0, 0, ()), (key_1.1, key_1.2.1, key_1.2.2.1, ()), ())

/-! ### shunter/shunterref19.Put -/
noncomputable def ref19_Put (l_0 : List ((Int × Int × Int × Unit) × Int × Unit)) (most_1 : Int) (key_2 : Int × Int × Int × Unit) (n_3 : Int) : Option (((List ((Int × Int × Int × Unit) × Int × Unit)) × Int × Unit) × (Unit)) :=
  (ref02_May (key_2.1, key_2.2.1, key_2.2.2.1, ())).bind fun r_1 =>
  bif !r_1.1.1 then
    some ((l_0, 1, ()), ())
  else
  (ref19_Find l_0 (key_2.1, key_2.2.1, key_2.2.2.1, ())).bind fun r_2 =>
  bif (decide (r_2.1.1 ≥ 0)) then
    some ((l_0, 6, ()), ())
  else
  bif (decide ((l_0.length : Int) ≥ most_1)) then
    some ((l_0, 8, ()), ())
  else
  (roomI 32 ([] : List ((Int × Int × Int × Unit) × Int × Unit)) l_0).bind fun v_6 =>
  (roomI 32 v_6 [((key_2.1, key_2.2.1, key_2.2.2.1, ()), n_3, ())]).bind fun v_7 =>
  some ((v_7, 0, ()), ())

/-! ### shunter/shunterref19.Set -/
noncomputable def ref19_Set (l_0 : List ((Int × Int × Int × Unit) × Int × Unit)) (key_1 : Int × Int × Int × Unit) (n_2 : Int) : Option (((List ((Int × Int × Int × Unit) × Int × Unit)) × Int × Unit) × (Unit)) :=
  (ref02_May (key_1.1, key_1.2.1, key_1.2.2.1, ())).bind fun r_1 =>
  bif !r_1.1.1 then
    some ((l_0, 1, ()), ())
  else
  (ref19_Find l_0 (key_1.1, key_1.2.1, key_1.2.2.1, ())).bind fun r_2 =>
  bif (decide (r_2.1.1 < 0)) then
    some ((l_0, 5, ()), ())
  else
  (roomI 32 ([] : List ((Int × Int × Int × Unit) × Int × Unit)) l_0).bind fun v_4 =>
  (Option.map (fun _ => r_2.1.1) (ckI r_2.1.1 v_4.length)).bind fun v_5 =>
  (((rdI v_4 v_5).bind fun v => (((rdI v_4 v_5).map (·.2)).map fun v => (n_2, v.2)).map fun w => (v.1, w)).bind fun v => stI v_4 v_5 v).bind fun v_6 =>
  some ((v_6, 0, ()), ())

/-! ### shunter/shunterref19.Drop -/
noncomputable def ref19_Drop (l_0 : List ((Int × Int × Int × Unit) × Int × Unit)) (key_1 : Int × Int × Int × Unit) : Option (((List ((Int × Int × Int × Unit) × Int × Unit)) × Int × Unit) × (Unit)) :=
  (ref02_May (key_1.1, key_1.2.1, key_1.2.2.1, ())).bind fun r_1 =>
  bif !r_1.1.1 then
    some ((l_0, 1, ()), ())
  else
  (ref19_Find l_0 (key_1.1, key_1.2.1, key_1.2.2.1, ())).bind fun r_2 =>
  bif (decide (r_2.1.1 < 0)) then
    some ((l_0, 5, ()), ())
  else
  (subL l_0 0 r_2.1.1).bind fun v_4 =>
  (roomI 32 ([] : List ((Int × Int × Int × Unit) × Int × Unit)) v_4).bind fun v_5 =>
  (subL l_0 (IntKind.i64.wrap (r_2.1.1 + 1)) (l_0.length : Int)).bind fun v_7 =>
  (roomI 32 v_5 v_7).bind fun v_8 =>
  some ((v_8, 0, ()), ())

/-! ### (*shunter/exact.Map).Len -/
noncomputable def exact_Map_Len_bb9 (m_0 : (List (Bool × ((Int × Int × Int × Unit) × Int × Unit) × Unit)) × Int × Int × Unit) : Option ((Int × Unit) × (((List (Bool × ((Int × Int × Int × Unit) × Int × Unit) × Unit)) × Int × Int × Unit) × Unit)) :=
  some ((m_0.2.1, ()), (m_0.1, m_0.2.1, m_0.2.2.1, ()), ())

/-! ### (*shunter/exact.Map).Room -/
noncomputable def exact_Map_Room_bb9 (m_0 : (List (Bool × ((Int × Int × Int × Unit) × Int × Unit) × Unit)) × Int × Int × Unit) : Option ((Int × Unit) × (((List (Bool × ((Int × Int × Int × Unit) × Int × Unit) × Unit)) × Int × Int × Unit) × Unit)) :=
  some (((IntKind.i64.wrap (m_0.2.2.1 - m_0.2.1)), ()), (m_0.1, m_0.2.1, m_0.2.2.1, ()), ())

end Go.L
