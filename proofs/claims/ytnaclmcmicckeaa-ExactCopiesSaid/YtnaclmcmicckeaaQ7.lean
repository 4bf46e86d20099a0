/- The functions of this seat, and the laws as plain Lean. -/
import Derived.Test.YtnaclmcmicckeaaProg
import Derived.Test.YtnaclmcmicckeaaQ6

set_option linter.unusedSimpArgs false
set_option linter.unusedVariables false

namespace Go.Proofs.Ytnaclmcmicckeaa
open Go Go.Pv Go.Proofs Go.L
set_option maxRecDepth 100000

noncomputable def bodyOf (f : Func) : Code := match f.body with | some c => c | none => .skip
noncomputable def cf (tab : List (Nat × CSem)) (nt nob : Nat) (ann : List (Nat × Shape)) : Cfg := ⟨Try.prog, fun f => lk f tab, nt, nob, fun n => lk n ann, false⟩
noncomputable def cfs (tab : List (Nat × CSem)) (nt nob : Nat) (ann : List (Nat × Shape)) : Cfg := ⟨Try.prog, fun f => lk f tab, nt, nob, fun n => lk n ann, true⟩
def Tab (dr : Bool) (tab : List (Nat × CSem)) : Prop := ∀ q ∈ tab, ContractD dr Try.prog q.1 q.2
theorem Tab.nil {dr : Bool} : Tab dr [] := fun q h => by cases h
theorem Tab.cons {dr : Bool} {f : Nat} {sem : CSem} {l : List (Nat × CSem)} (h : ContractD dr Try.prog f sem) (t : Tab dr l) : Tab dr ((f, sem) :: l) := fun q hq => by
 rcases List.mem_cons.1 hq with rfl | hq
 ·exact h
 ·exact t q hq

noncomputable def ag22 : List AK := [.val (.int .u64), .val (.int .u64)]
noncomputable def al22 : List Alt := [([.val (.agg (.arr 128 .bool))], [])]
noncomputable def sm22 : CSem := mkSemA ag22 al22 fun x => ref01_Of x.1 x.2.1
noncomputable def cf22 : Cfg := cf [] 27 0 [(0, ⟨[(0, .dat (.int .u64)), (1, .dat (.int .u64)), (4, .loc (nameOf 4 0) []), (5, .loc (nameOf 5 0) []), (6, .dat (.int .i64))], [((nameOf 4 0), (.agg (.arr 128 .bool))), ((nameOf 5 0), (.agg (.arr 128 .bool)))]⟩)]

noncomputable def sem22 : CSem := sm22

noncomputable def sg21 : Sig := ⟨[.val (.agg (.arr 128 .bool))], [.val (.int .i64)], []⟩
noncomputable def sm21 : CSem := mkSem sg21 fun x => ref01_Len x.1
noncomputable def cf21 : Cfg := cf [] 13 0 [(0, ⟨[(1, .loc (nameOf 1 0) []), (3, .dat (.int .i64))], [((nameOf 1 0), (.agg (.arr 128 .bool)))]⟩)]

noncomputable def sem21 : CSem := sm21

noncomputable def sg7 : Sig := ⟨[.val (.agg (.pair (.int .i64) (.pair (.int .u64) (.pair (.int .u64) .unit))))], [.val .bool], []⟩
noncomputable def sm7 : CSem := mkSem sg7 fun x => ref02_May x.1
noncomputable def cf7 : Cfg := cf [(22, sem22), (21, sem21)] 22 0 []

noncomputable def sem7 : CSem := sm7

noncomputable def ag9 : List AK := [.val (.int .i64)]
noncomputable def al9 : List Alt := [([.val .nilp], []), ([.ptr (.agg (.pair (.own (.agg (.pair .bool (.pair (.agg (.pair (.agg (.pair (.int .i64) (.pair (.int .u64) (.pair (.int .u64) .unit)))) (.pair (.int .i64) .unit))) .unit)))) (.pair (.int .i64) (.pair (.int .i64) .unit))))], [])]
noncomputable def sm9 : CSem := mkSemA ag9 al9 fun x => exact_New x.1
noncomputable def cf9 : Cfg := cf [] 21 0 [(0, ⟨[(0, .dat (.int .i64)), (3, .dat (.int .i64))], []⟩)]

noncomputable def sem9 : CSem := sm9

noncomputable def sg47 : Sig := ⟨[.val (.int .i64)], [.val .bool], []⟩
noncomputable def sm47 : CSem := mkSem sg47 fun x => vec_width x.1
noncomputable def cf47 : Cfg := cf [] 9 0 []

noncomputable def sem47 : CSem := sm47

noncomputable def ag34 : List AK := [.val (.agg (.pair (.int .i64) (.pair (.int .u64) (.pair (.int .u64) .unit))))]
noncomputable def al34 : List Alt := [([.val (.agg (.pair (.int .u64) (.pair (.int .u64) .unit)))], [])]
noncomputable def sm34 : CSem := mkSemA ag34 al34 fun x => vec_Word x.1
noncomputable def cf34 : Cfg := cf [] 8 0 []

noncomputable def sem34 : CSem := sm34

noncomputable def sg58 : Sig := ⟨[.val (.int .u64)], [.val (.int .i64)], []⟩
noncomputable def sm58 : CSem := mkSem sg58 fun x => bits_Len64 x.1
noncomputable def cf58 : Cfg := cf [] 25 0 []

noncomputable def sem58 : CSem := sm58

noncomputable def sg48 : Sig := ⟨[.val (.agg (.pair (.int .u64) (.pair (.int .u64) .unit)))], [.val (.int .i64)], []⟩
noncomputable def sm48 : CSem := mkSem sg48 fun x => word_Len x.1
noncomputable def cf48 : Cfg := cf [(58, sem58)] 13 0 []

noncomputable def sem48 : CSem := sm48

noncomputable def sg37 : Sig := ⟨[.val (.agg (.pair (.int .i64) (.pair (.int .u64) (.pair (.int .u64) .unit))))], [.val .bool], []⟩
noncomputable def sm37 : CSem := mkSem sg37 fun x => vec_May x.1
noncomputable def cf37 : Cfg := cf [(47, sem47), (34, sem34), (48, sem48)] 14 0 []

noncomputable def sem37 : CSem := sm37

noncomputable def sg23 : Sig := ⟨[.obj (.agg (.pair (.own (.agg (.pair .bool (.pair (.agg (.pair (.agg (.pair (.int .i64) (.pair (.int .u64) (.pair (.int .u64) .unit)))) (.pair (.int .i64) .unit))) .unit)))) (.pair (.int .i64) (.pair (.int .i64) .unit)))), .val (.agg (.pair (.int .i64) (.pair (.int .u64) (.pair (.int .u64) .unit))))], [.val .bool], [(.agg (.pair (.own (.agg (.pair .bool (.pair (.agg (.pair (.agg (.pair (.int .i64) (.pair (.int .u64) (.pair (.int .u64) .unit)))) (.pair (.int .i64) .unit))) .unit)))) (.pair (.int .i64) (.pair (.int .i64) .unit))))]⟩
noncomputable def sm23 : CSem := mkSem sg23 fun x => exact_Map_may_ca4 x.1 x.2.1
noncomputable def cf23 : Cfg := cf [(37, sem37)] 11 1 []

noncomputable def sg23a : Sig := ⟨[.val .nilp, .val (.agg (.pair (.int .i64) (.pair (.int .u64) (.pair (.int .u64) .unit))))], [.val .bool], []⟩
noncomputable def sm23a : CSem := mkSem sg23a fun x => exact_Map_may_052 x.1 x.2.1
noncomputable def cf23a : Cfg := cfs [(37, sem37)] 11 0 []

noncomputable def sem23 : CSem := orSem sm23 (sm23a)

noncomputable def sg38 : Sig := ⟨[.obj (.agg (.pair (.own (.agg (.pair .bool (.pair (.agg (.pair (.agg (.pair (.int .i64) (.pair (.int .u64) (.pair (.int .u64) .unit)))) (.pair (.int .i64) .unit))) .unit)))) (.pair (.int .i64) (.pair (.int .i64) .unit)))), .val (.agg (.pair (.int .i64) (.pair (.int .u64) (.pair (.int .u64) .unit))))], [.val (.int .i64)], [(.agg (.pair (.own (.agg (.pair .bool (.pair (.agg (.pair (.agg (.pair (.int .i64) (.pair (.int .u64) (.pair (.int .u64) .unit)))) (.pair (.int .i64) .unit))) .unit)))) (.pair (.int .i64) (.pair (.int .i64) .unit))))]⟩
noncomputable def sm38 : CSem := mkSem sg38 fun x => exact_Map_home_ca4 x.1 x.2.1
noncomputable def cf38 : Cfg := cf [] 37 1 [(0, ⟨[(0, .loc (objName 0) []), (5, .dat (.int .u64)), (15, .dat (.agg (.arr 3 (.int .u64)))), (16, .dat (.int .i64))], [((objName 0), (.agg (.pair (.own (.agg (.pair .bool (.pair (.agg (.pair (.agg (.pair (.int .i64) (.pair (.int .u64) (.pair (.int .u64) .unit)))) (.pair (.int .i64) .unit))) .unit)))) (.pair (.int .i64) (.pair (.int .i64) .unit)))))]⟩)]

noncomputable def sem38 : CSem := sm38

noncomputable def sg39 : Sig := ⟨[.obj (.agg (.pair (.own (.agg (.pair .bool (.pair (.agg (.pair (.agg (.pair (.int .i64) (.pair (.int .u64) (.pair (.int .u64) .unit)))) (.pair (.int .i64) .unit))) .unit)))) (.pair (.int .i64) (.pair (.int .i64) .unit)))), .val (.int .i64)], [.val (.int .i64)], [(.agg (.pair (.own (.agg (.pair .bool (.pair (.agg (.pair (.agg (.pair (.int .i64) (.pair (.int .u64) (.pair (.int .u64) .unit)))) (.pair (.int .i64) .unit))) .unit)))) (.pair (.int .i64) (.pair (.int .i64) .unit))))]⟩
noncomputable def sm39 : CSem := mkSem sg39 fun x => exact_Map_next_deb x.1 x.2.1
noncomputable def cf39 : Cfg := cf [] 13 1 []

noncomputable def sem39 : CSem := sm39

noncomputable def sg24 : Sig := ⟨[.obj (.agg (.pair (.own (.agg (.pair .bool (.pair (.agg (.pair (.agg (.pair (.int .i64) (.pair (.int .u64) (.pair (.int .u64) .unit)))) (.pair (.int .i64) .unit))) .unit)))) (.pair (.int .i64) (.pair (.int .i64) .unit)))), .val (.agg (.pair (.int .i64) (.pair (.int .u64) (.pair (.int .u64) .unit))))], [.val (.int .i64), .val .bool], [(.agg (.pair (.own (.agg (.pair .bool (.pair (.agg (.pair (.agg (.pair (.int .i64) (.pair (.int .u64) (.pair (.int .u64) .unit)))) (.pair (.int .i64) .unit))) .unit)))) (.pair (.int .i64) (.pair (.int .i64) .unit))))]⟩
noncomputable def sm24 : CSem := mkSem sg24 fun x => exact_Map_find_ca4 x.1 x.2.1
noncomputable def cf24 : Cfg := cf [(38, sem38), (39, sem39)] 34 1 [(0, ⟨[(0, .loc (objName 0) []), (3, .loc (nameOf 3 0) []), (6, .dat (.int .i64))], [((nameOf 3 0), (.agg (.pair (.int .i64) (.pair (.int .u64) (.pair (.int .u64) .unit))))), ((objName 0), (.agg (.pair (.own (.agg (.pair .bool (.pair (.agg (.pair (.agg (.pair (.int .i64) (.pair (.int .u64) (.pair (.int .u64) .unit)))) (.pair (.int .i64) .unit))) .unit)))) (.pair (.int .i64) (.pair (.int .i64) .unit)))))]⟩)]

noncomputable def sem24 : CSem := sm24

noncomputable def sg10 : Sig := ⟨[.obj (.agg (.pair (.own (.agg (.pair .bool (.pair (.agg (.pair (.agg (.pair (.int .i64) (.pair (.int .u64) (.pair (.int .u64) .unit)))) (.pair (.int .i64) .unit))) .unit)))) (.pair (.int .i64) (.pair (.int .i64) .unit)))), .val (.agg (.pair (.int .i64) (.pair (.int .u64) (.pair (.int .u64) .unit)))), .val (.int .i64)], [.val (.int .i64)], [(.agg (.pair (.own (.agg (.pair .bool (.pair (.agg (.pair (.agg (.pair (.int .i64) (.pair (.int .u64) (.pair (.int .u64) .unit)))) (.pair (.int .i64) .unit))) .unit)))) (.pair (.int .i64) (.pair (.int .i64) .unit))))]⟩
noncomputable def sm10 : CSem := mkSem sg10 fun x => exact_Map_Put_767 x.1 x.2.1 x.2.2.1
noncomputable def cf10 : Cfg := cf [(23, sem23), (24, sem24)] 48 1 []

noncomputable def sg10a : Sig := ⟨[.val .nilp, .val (.agg (.pair (.int .i64) (.pair (.int .u64) (.pair (.int .u64) .unit)))), .val (.int .i64)], [.val (.int .i64)], []⟩
noncomputable def sm10a : CSem := mkSem sg10a fun x => exact_Map_Put_01a x.1 x.2.1 x.2.2.1
noncomputable def cf10a : Cfg := cfs [(23, sem23)] 48 0 []

noncomputable def sem10 : CSem := orSem sm10 (sm10a)

noncomputable def sg13 : Sig := ⟨[.obj (.agg (.pair (.own (.agg (.pair .bool (.pair (.agg (.pair (.agg (.pair (.int .i64) (.pair (.int .u64) (.pair (.int .u64) .unit)))) (.pair (.int .i64) .unit))) .unit)))) (.pair (.int .i64) (.pair (.int .i64) .unit)))), .val (.agg (.pair (.int .i64) (.pair (.int .u64) (.pair (.int .u64) .unit))))], [.val (.int .i64), .val .bool], [(.agg (.pair (.own (.agg (.pair .bool (.pair (.agg (.pair (.agg (.pair (.int .i64) (.pair (.int .u64) (.pair (.int .u64) .unit)))) (.pair (.int .i64) .unit))) .unit)))) (.pair (.int .i64) (.pair (.int .i64) .unit))))]⟩
noncomputable def sm13 : CSem := mkSem sg13 fun x => exact_Map_Get_ca4 x.1 x.2.1
noncomputable def cf13 : Cfg := cf [(23, sem23), (24, sem24)] 28 1 []

noncomputable def sg13a : Sig := ⟨[.val .nilp, .val (.agg (.pair (.int .i64) (.pair (.int .u64) (.pair (.int .u64) .unit))))], [.val (.int .i64), .val .bool], []⟩
noncomputable def sm13a : CSem := mkSem sg13a fun x => exact_Map_Get_052 x.1 x.2.1
noncomputable def cf13a : Cfg := cfs [(23, sem23)] 28 0 []

noncomputable def sem13 : CSem := orSem sm13 (sm13a)

noncomputable def law19_lives : Option ((Bool × Unit) × (Unit)) :=
 (exact_New 1).bind fun r_1 =>
 match r_1 with
 | .inl y_2 => some ((false, ()), ())
 | .inr y_3 => (exact_Map_Put_767 y_3.1.1 (8, 0, 5, ()) 7).bind fun r_4 =>
  let t11_5 : Bool := !decide (r_4.1.1 = 0)
  guardR (!t11_5) (some ()) () fun _ =>
  guardR (!t11_5) (some ()) () fun _ =>
  guardR (!t11_5) (exact_Map_Put_767 r_4.2.1 (8, 0, 6, ()) 8) ((0, ()), ([], 0, 0, ()), ()) fun r_6 =>
  guardR (!t11_5) (some (!decide (r_6.1.1 = 8))) false fun v_7 =>
  bif (bif t11_5 then true else v_7) then
   some ((false, ()), ())
  else
  (exact_Map_Get_ca4 (bif !t11_5 then r_6.2.1 else r_4.2.1) (8, 0, 5, ())).bind fun r_9 =>
  let t26_10 : Bool := decide (r_9.1.1 = 7)
  guardR t26_10 (some ()) () fun _ =>
  some (((bif t26_10 then r_9.1.2.1 else false), ()), ())

noncomputable def sg8 : Sig := ⟨[], [.val .bool], []⟩
noncomputable def sm8 : CSem := mkSem sg8 fun x => law19_lives
noncomputable def cf8 : Cfg := cf [(9, sem9), (10, sem10), (13, sem13)] 30 0 []

noncomputable def sem8 : CSem := sm8

noncomputable def sg11 : Sig := ⟨[.obj (.agg (.pair (.own (.agg (.pair .bool (.pair (.agg (.pair (.agg (.pair (.int .i64) (.pair (.int .u64) (.pair (.int .u64) .unit)))) (.pair (.int .i64) .unit))) .unit)))) (.pair (.int .i64) (.pair (.int .i64) .unit)))), .val (.agg (.pair (.int .i64) (.pair (.int .u64) (.pair (.int .u64) .unit)))), .val (.int .i64)], [.val (.int .i64)], [(.agg (.pair (.own (.agg (.pair .bool (.pair (.agg (.pair (.agg (.pair (.int .i64) (.pair (.int .u64) (.pair (.int .u64) .unit)))) (.pair (.int .i64) .unit))) .unit)))) (.pair (.int .i64) (.pair (.int .i64) .unit))))]⟩
noncomputable def sm11 : CSem := mkSem sg11 fun x => exact_Map_Set_767 x.1 x.2.1 x.2.2.1
noncomputable def cf11 : Cfg := cf [(23, sem23), (24, sem24)] 30 1 []

noncomputable def sg11a : Sig := ⟨[.val .nilp, .val (.agg (.pair (.int .i64) (.pair (.int .u64) (.pair (.int .u64) .unit)))), .val (.int .i64)], [.val (.int .i64)], []⟩
noncomputable def sm11a : CSem := mkSem sg11a fun x => exact_Map_Set_01a x.1 x.2.1 x.2.2.1
noncomputable def cf11a : Cfg := cfs [(23, sem23)] 30 0 []

noncomputable def sem11 : CSem := orSem sm11 (sm11a)

noncomputable def sg40 : Sig := ⟨[.val (.int .i64), .val (.int .i64), .val (.int .i64)], [.val .bool], []⟩
noncomputable def sm40 : CSem := mkSem sg40 fun x => exact_between x.1 x.2.1 x.2.2.1
noncomputable def cf40 : Cfg := cf [] 26 0 []

noncomputable def sem40 : CSem := sm40

noncomputable def sg25 : Sig := ⟨[.obj (.agg (.pair (.own (.agg (.pair .bool (.pair (.agg (.pair (.agg (.pair (.int .i64) (.pair (.int .u64) (.pair (.int .u64) .unit)))) (.pair (.int .i64) .unit))) .unit)))) (.pair (.int .i64) (.pair (.int .i64) .unit)))), .val (.int .i64)], [], [(.agg (.pair (.own (.agg (.pair .bool (.pair (.agg (.pair (.agg (.pair (.int .i64) (.pair (.int .u64) (.pair (.int .u64) .unit)))) (.pair (.int .i64) .unit))) .unit)))) (.pair (.int .i64) (.pair (.int .i64) .unit))))]⟩
noncomputable def sm25 : CSem := mkSem sg25 fun x => exact_Map_close_deb x.1 x.2.1
noncomputable def cf25 : Cfg := cf [(39, sem39), (38, sem38), (40, sem40)] 54 1 [(0, ⟨[(0, .loc (objName 0) []), (1, .dat (.int .i64)), (4, .dat (.int .i64))], [((objName 0), (.agg (.pair (.own (.agg (.pair .bool (.pair (.agg (.pair (.agg (.pair (.int .i64) (.pair (.int .u64) (.pair (.int .u64) .unit)))) (.pair (.int .i64) .unit))) .unit)))) (.pair (.int .i64) (.pair (.int .i64) .unit)))))]⟩)]

noncomputable def sem25 : CSem := sm25

noncomputable def sg12 : Sig := ⟨[.obj (.agg (.pair (.own (.agg (.pair .bool (.pair (.agg (.pair (.agg (.pair (.int .i64) (.pair (.int .u64) (.pair (.int .u64) .unit)))) (.pair (.int .i64) .unit))) .unit)))) (.pair (.int .i64) (.pair (.int .i64) .unit)))), .val (.agg (.pair (.int .i64) (.pair (.int .u64) (.pair (.int .u64) .unit))))], [.val (.int .i64)], [(.agg (.pair (.own (.agg (.pair .bool (.pair (.agg (.pair (.agg (.pair (.int .i64) (.pair (.int .u64) (.pair (.int .u64) .unit)))) (.pair (.int .i64) .unit))) .unit)))) (.pair (.int .i64) (.pair (.int .i64) .unit))))]⟩
noncomputable def sm12 : CSem := mkSem sg12 fun x => exact_Map_Drop_ca4 x.1 x.2.1
noncomputable def cf12 : Cfg := cf [(23, sem23), (24, sem24), (25, sem25)] 36 1 []

noncomputable def sg12a : Sig := ⟨[.val .nilp, .val (.agg (.pair (.int .i64) (.pair (.int .u64) (.pair (.int .u64) .unit))))], [.val (.int .i64)], []⟩
noncomputable def sm12a : CSem := mkSem sg12a fun x => exact_Map_Drop_052 x.1 x.2.1
noncomputable def cf12a : Cfg := cfs [(23, sem23)] 36 0 []

noncomputable def sem12 : CSem := orSem sm12 (sm12a)

noncomputable def law19_ExactKeeps_s0 (ops_0_0 : List (Int × Int × (Int × Int × Int × Unit) × Unit)) (n_2_0 : Int) (i_8_0 : Int) (p22_0_0 : (List (Bool × ((Int × Int × Int × Unit) × Int × Unit) × Unit)) × Int × Int × Unit) (p4_0_0 : Int × Int × Int × Unit) : Option ((((List (Int × Int × (Int × Int × Int × Unit) × Unit)) × Int × Int × Unit) × (((List (Bool × ((Int × Int × Int × Unit) × Int × Unit) × Unit)) × Int × Int × Unit) × (Int × Int × Int × Unit) × Unit)) ⊕ ((Bool × Unit) × (Unit))) :=
 bif (decide (i_8_0 < (ops_0_0.length : Int))) then
  (rdI ops_0_0 i_8_0).bind fun v_14 =>
  bif (decide (v_14.2.2.1.1 = p4_0_0.1) && (decide (v_14.2.2.1.2.1 = p4_0_0.2.1) && decide (v_14.2.2.1.2.2.1 = p4_0_0.2.2.1))) then
   some (.inl ((ops_0_0, n_2_0, (IntKind.i64.wrap (i_8_0 + 1)), ()), (p22_0_0.1, p22_0_0.2.1, p22_0_0.2.2.1, ()), (p4_0_0.1, p4_0_0.2.1, p4_0_0.2.2.1, ()), ()))
  else
  (rdI ops_0_0 i_8_0).bind fun v_17 =>
  bif (decide (v_17.1 = 0)) then
   (rdI ops_0_0 i_8_0).bind fun v_19 =>
   (rdI ops_0_0 i_8_0).bind fun v_20 =>
   (exact_Map_Put_767 (p22_0_0.1, p22_0_0.2.1, p22_0_0.2.2.1, ()) v_19.2.2.1 v_20.2.1).bind fun r_21 =>
   (exact_Map_Get_ca4 r_21.2.1 (p4_0_0.1, p4_0_0.2.1, p4_0_0.2.2.1, ())).bind fun r_22 =>
   let t93_23 : Bool := !decide (r_22.1.1 = n_2_0)
   guardR (!t93_23) (some ()) () fun _ =>
   guardR (!t93_23) (some ()) () fun _ =>
   bif (bif t93_23 then true else !r_22.1.2.1) then
    some (.inr ((false, ()), ()))
   else
   some (.inl ((ops_0_0, n_2_0, (IntKind.i64.wrap (i_8_0 + 1)), ()), r_22.2.1, (p4_0_0.1, p4_0_0.2.1, p4_0_0.2.2.1, ()), ()))
  else
  bif (decide (v_17.1 = 1)) then
   (rdI ops_0_0 i_8_0).bind fun v_27 =>
   (rdI ops_0_0 i_8_0).bind fun v_28 =>
   (exact_Map_Set_767 (p22_0_0.1, p22_0_0.2.1, p22_0_0.2.2.1, ()) v_27.2.2.1 v_28.2.1).bind fun r_29 =>
   (exact_Map_Get_ca4 r_29.2.1 (p4_0_0.1, p4_0_0.2.1, p4_0_0.2.2.1, ())).bind fun r_30 =>
   let t93_31 : Bool := !decide (r_30.1.1 = n_2_0)
   guardR (!t93_31) (some ()) () fun _ =>
   guardR (!t93_31) (some ()) () fun _ =>
   bif (bif t93_31 then true else !r_30.1.2.1) then
    some (.inr ((false, ()), ()))
   else
   some (.inl ((ops_0_0, n_2_0, (IntKind.i64.wrap (i_8_0 + 1)), ()), r_30.2.1, (p4_0_0.1, p4_0_0.2.1, p4_0_0.2.2.1, ()), ()))
  else
  (rdI ops_0_0 i_8_0).bind fun v_34 =>
  (exact_Map_Drop_ca4 (p22_0_0.1, p22_0_0.2.1, p22_0_0.2.2.1, ()) v_34.2.2.1).bind fun r_35 =>
  (exact_Map_Get_ca4 r_35.2.1 (p4_0_0.1, p4_0_0.2.1, p4_0_0.2.2.1, ())).bind fun r_36 =>
  let t93_37 : Bool := !decide (r_36.1.1 = n_2_0)
  guardR (!t93_37) (some ()) () fun _ =>
  guardR (!t93_37) (some ()) () fun _ =>
  bif (bif t93_37 then true else !r_36.1.2.1) then
   some (.inr ((false, ()), ()))
  else
  some (.inl ((ops_0_0, n_2_0, (IntKind.i64.wrap (i_8_0 + 1)), ()), r_36.2.1, (p4_0_0.1, p4_0_0.2.1, p4_0_0.2.2.1, ()), ()))
 else
 ((exact_Map_Drop_ca4 (p22_0_0.1, p22_0_0.2.1, p22_0_0.2.2.1, ()) (p4_0_0.1, p4_0_0.2.1, p4_0_0.2.2.1, ())).bind fun r_40 =>
 bif (!decide (r_40.1.1 = 0)) then
  some ((false, ()), ())
 else
 (exact_Map_Get_ca4 r_40.2.1 (p4_0_0.1, p4_0_0.2.1, p4_0_0.2.2.1, ())).bind fun r_42 =>
 let t109_43 : Bool := decide (r_42.1.1 = 0)
 guardR t109_43 (some ()) () fun _ =>
 guardR t109_43 (some ()) () fun _ =>
 let t113_44 : Bool := bif t109_43 then !r_42.1.2.1 else false
 guardR t113_44 (some ()) () fun _ =>
 guardR t113_44 (some (p4_0_0.1, p4_0_0.2.1, p4_0_0.2.2.1, ())) (0, 0, 0, ()) fun v_45 =>
 guardR t113_44 (exact_Map_Drop_ca4 r_42.2.1 v_45) ((0, ()), ([], 0, 0, ()), ()) fun r_46 =>
 guardR t113_44 (some (decide (r_46.1.1 = 5))) false fun v_47 =>
 let t119_48 : Bool := bif t113_44 then v_47 else false
 guardR t119_48 law19_lives ((false, ()), ()) fun r_49 =>
 some (((bif t119_48 then r_49.1.1 else false), ()), ())).map .inr
noncomputable def law19_ExactKeeps (ops_0 : List (Int × Int × (Int × Int × Int × Unit) × Unit)) (key_1 : Int × Int × Int × Unit) (n_2 : Int) : Option ((Bool × Unit) × (Unit)) :=
 let t15_2 : Bool := decide ((ops_0.length : Int) > 600)
 guardR (!t15_2) (some (key_1.1, key_1.2.1, key_1.2.2.1, ())) (0, 0, 0, ()) fun v_3 =>
 guardR (!t15_2) (ref02_May v_3) ((false, ()), ()) fun r_4 =>
 guardR (!t15_2) (some ()) () fun _ =>
 bif (bif t15_2 then true else !r_4.1.1) then
  law19_lives.bind fun r_6 =>
  some ((r_6.1.1, ()), ())
 else
 (exact_New 256).bind fun r_7 =>
 match r_7 with
 | .inl y_8 => some ((false, ()), ())
 | .inr y_9 => (exact_Map_Put_767 y_9.1.1 (key_1.1, key_1.2.1, key_1.2.2.1, ()) n_2).bind fun r_10 =>
  bif (!decide (r_10.1.1 = 0)) then
   some ((false, ()), ())
  else
  loopR (fun (z : ((List (Int × Int × (Int × Int × Int × Unit) × Unit)) × Int × Int × Unit) × (((List (Bool × ((Int × Int × Int × Unit) × Int × Unit) × Unit)) × Int × Int × Unit) × (Int × Int × Int × Unit) × Unit)) => law19_ExactKeeps_s0 z.1.1 z.1.2.1 z.1.2.2.1 z.2.1 z.2.2.1) ((ops_0, n_2, 0, ()), r_10.2.1, (key_1.1, key_1.2.1, key_1.2.2.1, ()), ())

noncomputable def sg3 : Sig := ⟨[.val (.slice (.agg (.pair (.int .i64) (.pair (.int .i64) (.pair (.agg (.pair (.int .i64) (.pair (.int .u64) (.pair (.int .u64) .unit)))) .unit))))), .val (.agg (.pair (.int .i64) (.pair (.int .u64) (.pair (.int .u64) .unit)))), .val (.int .i64)], [.val .bool], []⟩
noncomputable def sm3 : CSem := mkSem sg3 fun x => law19_ExactKeeps x.1 x.2.1 x.2.2.1
noncomputable def cf3 : Cfg := cf [(7, sem7), (8, sem8), (9, sem9), (10, sem10), (13, sem13), (11, sem11), (12, sem12)] 123 0 [(0, ⟨[(0, .dat (.slice (.agg (.pair (.int .i64) (.pair (.int .i64) (.pair (.agg (.pair (.int .i64) (.pair (.int .u64) (.pair (.int .u64) .unit)))) .unit)))))), (2, .dat (.int .i64)), (4, .loc (nameOf 4 0) []), (7, .loc (nameOf 22 0) []), (8, .dat (.int .i64))], [((nameOf 22 0), (.agg (.pair (.own (.agg (.pair .bool (.pair (.agg (.pair (.agg (.pair (.int .i64) (.pair (.int .u64) (.pair (.int .u64) .unit)))) (.pair (.int .i64) .unit))) .unit)))) (.pair (.int .i64) (.pair (.int .i64) .unit))))), ((nameOf 4 0), (.agg (.pair (.int .i64) (.pair (.int .u64) (.pair (.int .u64) .unit)))))]⟩)]

noncomputable def sem3 : CSem := sm3

noncomputable def sg18 : Sig := ⟨[.val (.slice (.agg (.pair (.agg (.pair (.int .i64) (.pair (.int .u64) (.pair (.int .u64) .unit)))) (.pair (.int .i64) .unit)))), .val (.agg (.pair (.int .i64) (.pair (.int .u64) (.pair (.int .u64) .unit))))], [.val (.int .i64)], []⟩
noncomputable def sm18 : CSem := mkSem sg18 fun x => ref19_Find x.1 x.2.1
noncomputable def cf18 : Cfg := cf [] 20 0 [(0, ⟨[(0, .dat (.slice (.agg (.pair (.agg (.pair (.int .i64) (.pair (.int .u64) (.pair (.int .u64) .unit)))) (.pair (.int .i64) .unit))))), (3, .loc (nameOf 3 0) []), (5, .dat (.int .i64))], [((nameOf 3 0), (.agg (.pair (.int .i64) (.pair (.int .u64) (.pair (.int .u64) .unit)))))]⟩)]

noncomputable def sem18 : CSem := sm18

noncomputable def sg26 : Sig := ⟨[.val (.slice (.agg (.pair (.agg (.pair (.int .i64) (.pair (.int .u64) (.pair (.int .u64) .unit)))) (.pair (.int .i64) .unit)))), .val (.int .i64), .val (.agg (.pair (.int .i64) (.pair (.int .u64) (.pair (.int .u64) .unit)))), .val (.int .i64)], [.val (.slice (.agg (.pair (.agg (.pair (.int .i64) (.pair (.int .u64) (.pair (.int .u64) .unit)))) (.pair (.int .i64) .unit)))), .val (.int .i64)], []⟩
noncomputable def sm26 : CSem := mkSem sg26 fun x => ref19_Put x.1 x.2.1 x.2.2.1 x.2.2.2.1
noncomputable def cf26 : Cfg := cf [(7, sem7), (18, sem18)] 34 0 []

noncomputable def sem26 : CSem := sm26

noncomputable def sg27 : Sig := ⟨[.val (.slice (.agg (.pair (.agg (.pair (.int .i64) (.pair (.int .u64) (.pair (.int .u64) .unit)))) (.pair (.int .i64) .unit)))), .val (.agg (.pair (.int .i64) (.pair (.int .u64) (.pair (.int .u64) .unit)))), .val (.int .i64)], [.val (.slice (.agg (.pair (.agg (.pair (.int .i64) (.pair (.int .u64) (.pair (.int .u64) .unit)))) (.pair (.int .i64) .unit)))), .val (.int .i64)], []⟩
noncomputable def sm27 : CSem := mkSem sg27 fun x => ref19_Set x.1 x.2.1 x.2.2.1
noncomputable def cf27 : Cfg := cf [(7, sem7), (18, sem18)] 29 0 []

noncomputable def sem27 : CSem := sm27

noncomputable def sg28 : Sig := ⟨[.val (.slice (.agg (.pair (.agg (.pair (.int .i64) (.pair (.int .u64) (.pair (.int .u64) .unit)))) (.pair (.int .i64) .unit)))), .val (.agg (.pair (.int .i64) (.pair (.int .u64) (.pair (.int .u64) .unit))))], [.val (.slice (.agg (.pair (.agg (.pair (.int .i64) (.pair (.int .u64) (.pair (.int .u64) .unit)))) (.pair (.int .i64) .unit)))), .val (.int .i64)], []⟩
noncomputable def sm28 : CSem := mkSem sg28 fun x => ref19_Drop x.1 x.2.1
noncomputable def cf28 : Cfg := cf [(7, sem7), (18, sem18)] 29 0 []

noncomputable def sem28 : CSem := sm28

noncomputable def law19_step_fa9 (m_0 : (List (Bool × ((Int × Int × Int × Unit) × Int × Unit) × Unit)) × Int × Int × Unit) (l_1 : List ((Int × Int × Int × Unit) × Int × Unit)) (most_2 : Int) (o_3 : Int × Int × (Int × Int × Int × Unit) × Unit) : Option (((List ((Int × Int × Int × Unit) × Int × Unit)) × Bool × Unit) × (((List (Bool × ((Int × Int × Int × Unit) × Int × Unit) × Unit)) × Int × Int × Unit) × Unit)) :=
 bif (decide (o_3.1 = 0)) then
  (ref19_Put l_1 most_2 (o_3.2.2.1.1, o_3.2.2.1.2.1, o_3.2.2.1.2.2.1, ()) o_3.2.1).bind fun r_2 =>
  (exact_Map_Put_767 (m_0.1, m_0.2.1, m_0.2.2.1, ()) (o_3.2.2.1.1, o_3.2.2.1.2.1, o_3.2.2.1.2.2.1, ()) o_3.2.1).bind fun r_3 =>
  some ((r_2.1.1, (decide (r_3.1.1 = r_2.1.2.1)), ()), r_3.2.1, ())
 else
 bif (decide (o_3.1 = 1)) then
  (ref19_Set l_1 (o_3.2.2.1.1, o_3.2.2.1.2.1, o_3.2.2.1.2.2.1, ()) o_3.2.1).bind fun r_6 =>
  (exact_Map_Set_767 (m_0.1, m_0.2.1, m_0.2.2.1, ()) (o_3.2.2.1.1, o_3.2.2.1.2.1, o_3.2.2.1.2.2.1, ()) o_3.2.1).bind fun r_7 =>
  some ((r_6.1.1, (decide (r_7.1.1 = r_6.1.2.1)), ()), r_7.2.1, ())
 else
 bif (decide (o_3.1 = 2)) then
  (ref19_Drop l_1 (o_3.2.2.1.1, o_3.2.2.1.2.1, o_3.2.2.1.2.2.1, ())).bind fun r_10 =>
  (exact_Map_Drop_ca4 (m_0.1, m_0.2.1, m_0.2.2.1, ()) (o_3.2.2.1.1, o_3.2.2.1.2.1, o_3.2.2.1.2.2.1, ())).bind fun r_11 =>
  some ((r_10.1.1, (decide (r_11.1.1 = r_10.1.2.1)), ()), r_11.2.1, ())
 else
 (exact_Map_Get_ca4 (m_0.1, m_0.2.1, m_0.2.2.1, ()) (o_3.2.2.1.1, o_3.2.2.1.2.1, o_3.2.2.1.2.2.1, ())).bind fun r_13 =>
 (ref02_May (o_3.2.2.1.1, o_3.2.2.1.2.1, o_3.2.2.1.2.2.1, ())).bind fun r_14 =>
 bif r_14.1.1 then
  (ref19_Find l_1 (o_3.2.2.1.1, o_3.2.2.1.2.1, o_3.2.2.1.2.2.1, ())).bind fun r_15 =>
  bif (decide (r_15.1.1 < 0)) then
   let t91_17 : Bool := decide (r_13.1.1 = 0)
   guardR t91_17 (some ()) () fun _ =>
   guardR t91_17 (some ()) () fun _ =>
   some ((l_1, (bif t91_17 then !r_13.1.2.1 else false), ()), r_13.2.1, ())
  else
  (rdI l_1 r_15.1.1).bind fun v_19 =>
  let t103_20 : Bool := decide (r_13.1.1 = v_19.2.1)
  guardR t103_20 (some ()) () fun _ =>
  some ((l_1, (bif t103_20 then r_13.1.2.1 else false), ()), r_13.2.1, ())
 else
 bif (decide (((-1) : Int) < 0)) then
  let t91_23 : Bool := decide (r_13.1.1 = 0)
  guardR t91_23 (some ()) () fun _ =>
  guardR t91_23 (some ()) () fun _ =>
  some ((l_1, (bif t91_23 then !r_13.1.2.1 else false), ()), r_13.2.1, ())
 else
 (rdI l_1 (-1)).bind fun v_25 =>
 let t103_26 : Bool := decide (r_13.1.1 = v_25.2.1)
 guardR t103_26 (some ()) () fun _ =>
 some ((l_1, (bif t103_26 then r_13.1.2.1 else false), ()), r_13.2.1, ())

noncomputable def sg14 : Sig := ⟨[.obj (.agg (.pair (.own (.agg (.pair .bool (.pair (.agg (.pair (.agg (.pair (.int .i64) (.pair (.int .u64) (.pair (.int .u64) .unit)))) (.pair (.int .i64) .unit))) .unit)))) (.pair (.int .i64) (.pair (.int .i64) .unit)))), .val (.slice (.agg (.pair (.agg (.pair (.int .i64) (.pair (.int .u64) (.pair (.int .u64) .unit)))) (.pair (.int .i64) .unit)))), .val (.int .i64), .val (.agg (.pair (.int .i64) (.pair (.int .i64) (.pair (.agg (.pair (.int .i64) (.pair (.int .u64) (.pair (.int .u64) .unit)))) .unit))))], [.val (.slice (.agg (.pair (.agg (.pair (.int .i64) (.pair (.int .u64) (.pair (.int .u64) .unit)))) (.pair (.int .i64) .unit)))), .val .bool], [(.agg (.pair (.own (.agg (.pair .bool (.pair (.agg (.pair (.agg (.pair (.int .i64) (.pair (.int .u64) (.pair (.int .u64) .unit)))) (.pair (.int .i64) .unit))) .unit)))) (.pair (.int .i64) (.pair (.int .i64) .unit))))]⟩
noncomputable def sm14 : CSem := mkSem sg14 fun x => law19_step_fa9 x.1 x.2.1 x.2.2.1 x.2.2.2.1
noncomputable def cf14 : Cfg := cf [(26, sem26), (10, sem10), (27, sem27), (11, sem11), (28, sem28), (12, sem12), (13, sem13), (7, sem7), (18, sem18)] 107 1 []

noncomputable def sem14 : CSem := sm14

noncomputable def sg15 : Sig := ⟨[.obj (.agg (.pair (.own (.agg (.pair .bool (.pair (.agg (.pair (.agg (.pair (.int .i64) (.pair (.int .u64) (.pair (.int .u64) .unit)))) (.pair (.int .i64) .unit))) .unit)))) (.pair (.int .i64) (.pair (.int .i64) .unit))))], [.val (.int .i64)], [(.agg (.pair (.own (.agg (.pair .bool (.pair (.agg (.pair (.agg (.pair (.int .i64) (.pair (.int .u64) (.pair (.int .u64) .unit)))) (.pair (.int .i64) .unit))) .unit)))) (.pair (.int .i64) (.pair (.int .i64) .unit))))]⟩
noncomputable def sm15 : CSem := mkSem sg15 fun x => exact_Map_Len_bb9 x.1
noncomputable def cf15 : Cfg := cf [] 9 1 []

noncomputable def sg15a : Sig := ⟨[.val .nilp], [.val (.int .i64)], []⟩
noncomputable def sm15a : CSem := mkSem sg15a fun x => exact_Map_Len_d35 x.1
noncomputable def cf15a : Cfg := cfs [] 9 0 []

noncomputable def sem15 : CSem := orSem sm15 (sm15a)

noncomputable def sg16 : Sig := ⟨[.obj (.agg (.pair (.own (.agg (.pair .bool (.pair (.agg (.pair (.agg (.pair (.int .i64) (.pair (.int .u64) (.pair (.int .u64) .unit)))) (.pair (.int .i64) .unit))) .unit)))) (.pair (.int .i64) (.pair (.int .i64) .unit))))], [.val (.int .i64)], [(.agg (.pair (.own (.agg (.pair .bool (.pair (.agg (.pair (.agg (.pair (.int .i64) (.pair (.int .u64) (.pair (.int .u64) .unit)))) (.pair (.int .i64) .unit))) .unit)))) (.pair (.int .i64) (.pair (.int .i64) .unit))))]⟩
noncomputable def sm16 : CSem := mkSem sg16 fun x => exact_Map_Room_bb9 x.1
noncomputable def cf16 : Cfg := cf [] 14 1 []

noncomputable def sg16a : Sig := ⟨[.val .nilp], [.val (.int .i64)], []⟩
noncomputable def sm16a : CSem := mkSem sg16a fun x => exact_Map_Room_d35 x.1
noncomputable def cf16a : Cfg := cfs [] 14 0 []

noncomputable def sem16 : CSem := orSem sm16 (sm16a)

noncomputable def law19_ExactPlays_s0 (most_0_0 : Int) (ops_1_0 : List (Int × Int × (Int × Int × Int × Unit) × Unit)) (l_6_0 : List ((Int × Int × Int × Unit) × Int × Unit)) (i_7_0 : Int) (p10_0_0 : (List (Bool × ((Int × Int × Int × Unit) × Int × Unit) × Unit)) × Int × Int × Unit) : Option (((Int × (List (Int × Int × (Int × Int × Int × Unit) × Unit)) × (List ((Int × Int × Int × Unit) × Int × Unit)) × Int × Unit) × (((List (Bool × ((Int × Int × Int × Unit) × Int × Unit) × Unit)) × Int × Int × Unit) × Unit)) ⊕ ((Bool × Unit) × (Unit))) :=
 bif (decide (i_7_0 < (ops_1_0.length : Int))) then
  (rdI ops_1_0 i_7_0).bind fun v_18 =>
  (law19_step_fa9 (p10_0_0.1, p10_0_0.2.1, p10_0_0.2.2.1, ()) l_6_0 most_0_0 v_18).bind fun r_19 =>
  guardR (!(!r_19.1.2.1)) (some ()) () fun _ =>
  guardR (!(!r_19.1.2.1)) (exact_Map_Len_bb9 r_19.2.1) ((0, ()), ([], 0, 0, ()), ()) fun r_20 =>
  guardR (!(!r_19.1.2.1)) (some ()) () fun _ =>
  guardR (!(!r_19.1.2.1)) (some (r_19.1.1.length : Int)) 0 fun v_21 =>
  guardR (!(!r_19.1.2.1)) (some (!decide (r_20.1.1 = v_21))) false fun v_22 =>
  let t59_23 : Bool := bif !r_19.1.2.1 then true else v_22
  guardR (!t59_23) (some ()) () fun _ =>
  guardR (!t59_23) (exact_Map_Room_bb9 (bif !(!r_19.1.2.1) then r_20.2.1 else r_19.2.1)) ((0, ()), ([], 0, 0, ()), ()) fun r_24 =>
  guardR (!t59_23) (some ()) () fun _ =>
  guardR (!t59_23) (some ()) () fun _ =>
  guardR (!t59_23) (some (r_19.1.1.length : Int)) 0 fun v_25 =>
  guardR (!t59_23) (some (IntKind.i64.wrap (most_0_0 - v_25))) 0 fun v_26 =>
  guardR (!t59_23) (some (!decide (r_24.1.1 = v_26))) false fun v_27 =>
  bif (bif t59_23 then true else v_27) then
   some (.inr ((false, ()), ()))
  else
  some (.inl ((most_0_0, ops_1_0, r_19.1.1, (IntKind.i64.wrap (i_7_0 + 1)), ()), bif !t59_23 then r_24.2.1 else bif !(!r_19.1.2.1) then r_20.2.1 else r_19.2.1, ()))
 else
 (law19_lives.bind fun r_30 =>
 some ((r_30.1.1, ()), ())).map .inr
noncomputable def law19_ExactPlays (most_0 : Int) (ops_1 : List (Int × Int × (Int × Int × Int × Unit) × Unit)) : Option ((Bool × Unit) × (Unit)) :=
 (exact_New most_0).bind fun r_1 =>
 match r_1 with
 | .inl y_2 => let t12_3 : Bool := decide (most_0 < 1)
  guardR (!t12_3) (some ()) () fun _ =>
  guardR (!t12_3) (some (decide (most_0 > 256))) false fun v_4 =>
  bif (bif t12_3 then true else v_4) then
   law19_lives.bind fun r_6 =>
   some ((r_6.1.1, ()), ())
  else
  guardR false law19_lives ((false, ()), ()) fun r_7 =>
  some ((false, ()), ())
 | .inr y_8 => let t12_9 : Bool := decide (most_0 < 1)
  guardR (!t12_9) (some ()) () fun _ =>
  guardR (!t12_9) (some (decide (most_0 > 256))) false fun v_10 =>
  bif (bif t12_9 then true else v_10) then
   guardR false law19_lives ((false, ()), ()) fun r_12 =>
   some ((false, ()), ())
  else
  bif (decide ((ops_1.length : Int) > 600)) then
   law19_lives.bind fun r_15 =>
   some ((r_15.1.1, ()), ())
  else
  loopR (fun (z : (Int × (List (Int × Int × (Int × Int × Int × Unit) × Unit)) × (List ((Int × Int × Int × Unit) × Int × Unit)) × Int × Unit) × (((List (Bool × ((Int × Int × Int × Unit) × Int × Unit) × Unit)) × Int × Int × Unit) × Unit)) => law19_ExactPlays_s0 z.1.1 z.1.2.1 z.1.2.2.1 z.1.2.2.2.1 z.2.1) ((most_0, ops_1, [], 0, ()), y_8.1.1, ())

noncomputable def sg4 : Sig := ⟨[.val (.int .i64), .val (.slice (.agg (.pair (.int .i64) (.pair (.int .i64) (.pair (.agg (.pair (.int .i64) (.pair (.int .u64) (.pair (.int .u64) .unit)))) .unit)))))], [.val .bool], []⟩
noncomputable def sm4 : CSem := mkSem sg4 fun x => law19_ExactPlays x.1 x.2.1
noncomputable def cf4 : Cfg := cf [(9, sem9), (8, sem8), (14, sem14), (15, sem15), (16, sem16)] 70 0 [(0, ⟨[(0, .dat (.int .i64)), (1, .dat (.slice (.agg (.pair (.int .i64) (.pair (.int .i64) (.pair (.agg (.pair (.int .i64) (.pair (.int .u64) (.pair (.int .u64) .unit)))) .unit)))))), (5, .loc (nameOf 10 0) []), (6, .dat (.slice (.agg (.pair (.agg (.pair (.int .i64) (.pair (.int .u64) (.pair (.int .u64) .unit)))) (.pair (.int .i64) .unit))))), (7, .dat (.int .i64))], [((nameOf 10 0), (.agg (.pair (.own (.agg (.pair .bool (.pair (.agg (.pair (.agg (.pair (.int .i64) (.pair (.int .u64) (.pair (.int .u64) .unit)))) (.pair (.int .i64) .unit))) .unit)))) (.pair (.int .i64) (.pair (.int .i64) .unit)))))]⟩)]

noncomputable def sem4 : CSem := sm4

noncomputable def sg43 : Sig := ⟨[.val (.int .i64)], [.val .bool], []⟩
noncomputable def sm43 : CSem := mkSem sg43 fun x => cmp_isNaN_int x.1
noncomputable def cf43 : Cfg := cfs [] 6 0 []

noncomputable def sem43 : CSem := sm43

noncomputable def sg32 : Sig := ⟨[.val (.int .i64), .val (.int .i64)], [.val (.int .i64)], []⟩
noncomputable def sm32 : CSem := mkSem sg32 fun x => cmp_Compare_int x.1 x.2.1
noncomputable def cf32 : Cfg := cfs [(43, sem43)] 20 0 []

noncomputable def sem32 : CSem := sm32

noncomputable def sm59 : CSem := sub64Sem

noncomputable def sem59 : CSem := sm59

noncomputable def ag44 : List AK := [.val (.agg (.pair (.int .u64) (.pair (.int .u64) .unit))), .val (.agg (.pair (.int .u64) (.pair (.int .u64) .unit)))]
noncomputable def al44 : List Alt := [([.val (.agg (.pair (.int .u64) (.pair (.int .u64) .unit))), .val .bool], [])]
noncomputable def sm44 : CSem := mkSemA ag44 al44 fun x => word_Sub x.1 x.2.1
noncomputable def cf44 : Cfg := cf [(59, sem59)] 32 0 []

noncomputable def sem44 : CSem := sm44

noncomputable def sg33 : Sig := ⟨[.val (.agg (.pair (.int .u64) (.pair (.int .u64) .unit))), .val (.agg (.pair (.int .u64) (.pair (.int .u64) .unit)))], [.val (.int .i64)], []⟩
noncomputable def sm33 : CSem := mkSem sg33 fun x => word_Cmp x.1 x.2.1
noncomputable def cf33 : Cfg := cf [(44, sem44)] 19 0 []

noncomputable def sem33 : CSem := sm33

noncomputable def sg31 : Sig := ⟨[.val (.slice (.int .i64))], [.val (.int .i64)], []⟩
noncomputable def sm31 : CSem := mkSem sg31 fun x => cmp_Or_int x.1
noncomputable def cf31 : Cfg := cfs [] 18 0 [(0, ⟨[(3, .dat (.int .i64)), (6, .dat (.slice (.int .i64))), (7, .dat (.int .i64)), (8, .dat (.int .i64))], []⟩)]

noncomputable def sem31 : CSem := sm31

noncomputable def sg30 : Sig := ⟨[.val (.agg (.pair (.agg (.pair (.int .i64) (.pair (.int .u64) (.pair (.int .u64) .unit)))) (.pair (.int .i64) .unit))), .val (.agg (.pair (.agg (.pair (.int .i64) (.pair (.int .u64) (.pair (.int .u64) .unit)))) (.pair (.int .i64) .unit)))], [.val (.int .i64)], []⟩
noncomputable def sm30 : CSem := mkSem sg30 fun x => exact_Map_List_1 x.1 x.2.1
noncomputable def cf30 : Cfg := cfs [(32, sem32), (34, sem34), (33, sem33), (31, sem31)] 21 0 []

noncomputable def sem30 : CSem := sm30

noncomputable def sm29 : CSem := sortSem (.agg (.pair (.agg (.pair (.int .i64) (.pair (.int .u64) (.pair (.int .u64) .unit)))) (.pair (.int .i64) .unit))) 30 (fun x => exact_Map_List_1 x.1 x.2.1)

noncomputable def sem29 : CSem := sm29

noncomputable def sg17 : Sig := ⟨[.obj (.agg (.pair (.own (.agg (.pair .bool (.pair (.agg (.pair (.agg (.pair (.int .i64) (.pair (.int .u64) (.pair (.int .u64) .unit)))) (.pair (.int .i64) .unit))) .unit)))) (.pair (.int .i64) (.pair (.int .i64) .unit))))], [.own (.own (.agg (.pair (.agg (.pair (.int .i64) (.pair (.int .u64) (.pair (.int .u64) .unit)))) (.pair (.int .i64) .unit))))], [(.agg (.pair (.own (.agg (.pair .bool (.pair (.agg (.pair (.agg (.pair (.int .i64) (.pair (.int .u64) (.pair (.int .u64) .unit)))) (.pair (.int .i64) .unit))) .unit)))) (.pair (.int .i64) (.pair (.int .i64) .unit))))]⟩
noncomputable def sm17 : CSem := mkSem sg17 fun x => exact_Map_List_bb9 x.1
noncomputable def cf17 : Cfg := cfs [(29, sem29), (30, sem30)] 29 1 [(0, ⟨[(3, .own (.agg (.pair (.agg (.pair (.int .i64) (.pair (.int .u64) (.pair (.int .u64) .unit)))) (.pair (.int .i64) .unit))) false), (12, .lies (objName 0) [.fld 0]), (13, .dat (.int .i64)), (14, .dat (.int .i64))], [((objName 0), (.agg (.pair (.own (.agg (.pair .bool (.pair (.agg (.pair (.agg (.pair (.int .i64) (.pair (.int .u64) (.pair (.int .u64) .unit)))) (.pair (.int .i64) .unit))) .unit)))) (.pair (.int .i64) (.pair (.int .i64) .unit)))))]⟩)]

noncomputable def sg17a : Sig := ⟨[.val .nilp], [.val (.nils (.agg (.pair (.agg (.pair (.int .i64) (.pair (.int .u64) (.pair (.int .u64) .unit)))) (.pair (.int .i64) .unit))))], []⟩
noncomputable def sm17a : CSem := mkSem sg17a fun x => exact_Map_List_d35 x.1
noncomputable def cf17a : Cfg := cfs [] 29 0 []

noncomputable def sem17 : CSem := orSem sm17 (sm17a)

noncomputable def sg45 : Sig := ⟨[.val (.agg (.pair (.int .i64) (.pair (.int .u64) (.pair (.int .u64) .unit))))], [.own (.own .bool)], []⟩
noncomputable def sm45 : CSem := mkSem sg45 fun x => ref02_Bits x.1
noncomputable def cf45 : Cfg := cf [(22, sem22)] 28 0 [(0, ⟨[(1, .loc (nameOf 1 0) []), (3, .loc (nameOf 3 0) []), (4, .own .bool false), (5, .dat (.int .i64))], [((nameOf 1 0), (.agg (.pair (.int .i64) (.pair (.int .u64) (.pair (.int .u64) .unit))))), ((nameOf 3 0), (.agg (.arr 128 .bool)))]⟩)]

noncomputable def sem45 : CSem := sm45

noncomputable def sg60 : Sig := ⟨[.val (.agg (.arr 128 .bool))], [.val (.int .u64), .val (.int .u64)], []⟩
noncomputable def sm60 : CSem := mkSem sg60 fun x => ref01_Halves x.1
noncomputable def cf60 : Cfg := cf [] 28 0 [(0, ⟨[(1, .loc (nameOf 1 0) []), (4, .dat (.int .u64)), (5, .dat (.int .u64)), (6, .dat (.int .i64))], [((nameOf 1 0), (.agg (.arr 128 .bool)))]⟩)]

noncomputable def sem60 : CSem := sm60

noncomputable def ag46 : List AK := [.val (.slice .bool)]
noncomputable def al46 : List Alt := [([.val (.agg (.pair (.int .i64) (.pair (.int .u64) (.pair (.int .u64) .unit))))], [])]
noncomputable def sm46 : CSem := mkSemA ag46 al46 fun x => ref02_Of x.1
noncomputable def cf46 : Cfg := cf [(60, sem60)] 33 0 [(0, ⟨[(0, .dat (.slice .bool)), (2, .loc (nameOf 2 0) []), (3, .loc (nameOf 3 0) []), (4, .dat (.int .i64))], [((nameOf 2 0), (.agg (.pair (.int .i64) (.pair (.int .u64) (.pair (.int .u64) .unit))))), ((nameOf 3 0), (.agg (.arr 128 .bool)))]⟩)]

noncomputable def sem46 : CSem := sm46

noncomputable def ag35 : List AK := [.val .str, .val (.agg (.pair (.int .i64) (.pair (.int .u64) (.pair (.int .u64) .unit)))), .val (.agg (.pair (.int .i64) (.pair (.int .u64) (.pair (.int .u64) .unit))))]
noncomputable def al35 : List Alt := [([.val (.agg (.pair (.int .i64) (.pair (.int .u64) (.pair (.int .u64) .unit)))), .val (.int .i64)], [])]
noncomputable def sm35 : CSem := mkSemA ag35 al35 fun x => ref02_Two x.1 x.2.1 x.2.2.1
noncomputable def cf35 : Cfg := cf [(7, sem7), (45, sem45), (46, sem46)] 156 0 [(4, ⟨[(0, .dat .str), (6, .loc (nameOf 6 0) []), (10, .dat .bool), (13, .own .bool false), (14, .dat .bool), (20, .dat (.int .i64))], [((nameOf 6 0), (.agg (.pair (.int .i64) (.pair (.int .u64) (.pair (.int .u64) .unit)))))]⟩), (2, ⟨[(0, .dat .str), (6, .loc (nameOf 6 0) []), (8, .own .bool false), (9, .own .bool false), (10, .dat .bool), (13, .own .bool false), (14, .dat .bool), (15, .dat (.int .i64))], [((nameOf 6 0), (.agg (.pair (.int .i64) (.pair (.int .u64) (.pair (.int .u64) .unit)))))]⟩), (0, ⟨[(0, .dat .str), (6, .loc (nameOf 6 0) []), (8, .own .bool false), (9, .own .bool false), (10, .dat .bool), (11, .dat .bool), (12, .dat (.int .i64))], [((nameOf 6 0), (.agg (.pair (.int .i64) (.pair (.int .u64) (.pair (.int .u64) .unit)))))]⟩)]

noncomputable def sem35 : CSem := sm35

noncomputable def sg19 : Sig := ⟨[.val (.agg (.pair (.int .i64) (.pair (.int .u64) (.pair (.int .u64) .unit)))), .val (.agg (.pair (.int .i64) (.pair (.int .u64) (.pair (.int .u64) .unit))))], [.val .bool], []⟩
noncomputable def sm19 : CSem := mkSem sg19 fun x => ref19_Less x.1 x.2.1
noncomputable def cf19 : Cfg := cfs [(35, sem35)] 26 0 []

noncomputable def sem19 : CSem := sm19

noncomputable def law19_ExactLists_s2 (l_6_2 : List ((Int × Int × Int × Unit) × Int × Unit)) (got_8_2 : List ((Int × Int × Int × Unit) × Int × Unit)) (i_9_2 : Int) : Option ((((List ((Int × Int × Int × Unit) × Int × Unit)) × (List ((Int × Int × Int × Unit) × Int × Unit)) × Int × Unit) × (Unit)) ⊕ ((Bool × Unit) × (Unit))) :=
 bif (decide (i_9_2 < (got_8_2.length : Int))) then
  (Option.map (fun _ => i_9_2) (ckI i_9_2 got_8_2.length)).bind fun v_29 =>
  ((rdI got_8_2 v_29).map (·.1)).bind fun v_30 =>
  (ref19_Find l_6_2 v_30).bind fun r_31 =>
  let t70_32 : Bool := decide (r_31.1.1 < 0)
  guardR (!t70_32) (some ()) () fun _ =>
  guardR (!t70_32) (some ()) () fun _ =>
  guardR (!t70_32) (rdI l_6_2 r_31.1.1) ((0, 0, 0, ()), 0, ()) fun v_33 =>
  guardR (!t70_32) (some v_33.2.1) 0 fun v_34 =>
  guardR (!t70_32) (some ()) () fun _ =>
  guardR (!t70_32) (some ()) () fun _ =>
  guardR (!t70_32) (some ()) () fun _ =>
  guardR (!t70_32) (Option.map (fun _ => i_9_2) (ckI i_9_2 got_8_2.length)) 0 fun v_35 =>
  guardR (!t70_32) (some ()) () fun _ =>
  guardR (!t70_32) (((rdI got_8_2 v_35).map (·.2)).map (·.1)) 0 fun v_36 =>
  guardR (!t70_32) (some (!decide (v_34 = v_36))) false fun v_37 =>
  let t83_38 : Bool := bif t70_32 then true else v_37
  guardR (!t83_38) (some ()) () fun _ =>
  guardR (!t83_38) (some (decide (i_9_2 > 0))) false fun v_39 =>
  guardR (!t83_38) (some ()) () fun _ =>
  guardR ((!t83_38) && v_39) (some ()) () fun _ =>
  guardR ((!t83_38) && v_39) (some ()) () fun _ =>
  guardR ((!t83_38) && v_39) (some (IntKind.i64.wrap (i_9_2 - 1))) 0 fun v_40 =>
  guardR ((!t83_38) && v_39) (Option.map (fun _ => v_40) (ckI v_40 got_8_2.length)) 0 fun v_41 =>
  guardR ((!t83_38) && v_39) (some ()) () fun _ =>
  guardR ((!t83_38) && v_39) ((rdI got_8_2 v_41).map (·.1)) (0, 0, 0, ()) fun v_42 =>
  guardR ((!t83_38) && v_39) (some ()) () fun _ =>
  guardR ((!t83_38) && v_39) (some ()) () fun _ =>
  guardR ((!t83_38) && v_39) (Option.map (fun _ => i_9_2) (ckI i_9_2 got_8_2.length)) 0 fun v_43 =>
  guardR ((!t83_38) && v_39) (some ()) () fun _ =>
  guardR ((!t83_38) && v_39) ((rdI got_8_2 v_43).map (·.1)) (0, 0, 0, ()) fun v_44 =>
  guardR ((!t83_38) && v_39) (ref19_Less v_42 v_44) ((false, ()), ()) fun r_45 =>
  guardR ((!t83_38) && v_39) (some ()) () fun _ =>
  guardR (!t83_38) (some ()) () fun _ =>
  bif (bif t83_38 then true else (bif v_39 then !r_45.1.1 else false)) then
   some (.inr ((false, ()), ()))
  else
  some (.inl ((l_6_2, got_8_2, (IntKind.i64.wrap (i_9_2 + 1)), ()), ()))
 else
 (law19_lives.bind fun r_49 =>
 some ((r_49.1.1, ()), ())).map .inr
noncomputable def law19_ExactLists_s0 (most_0_0 : Int) (ops_1_0 : List (Int × Int × (Int × Int × Int × Unit) × Unit)) (l_6_0 : List ((Int × Int × Int × Unit) × Int × Unit)) (i_7_0 : Int) (p12_0_0 : (List (Bool × ((Int × Int × Int × Unit) × Int × Unit) × Unit)) × Int × Int × Unit) : Option (((Int × (List (Int × Int × (Int × Int × Int × Unit) × Unit)) × (List ((Int × Int × Int × Unit) × Int × Unit)) × Int × Unit) × (((List (Bool × ((Int × Int × Int × Unit) × Int × Unit) × Unit)) × Int × Int × Unit) × Unit)) ⊕ ((Bool × Unit) × (Unit))) :=
 bif (decide (i_7_0 < (ops_1_0.length : Int))) then
  (rdI ops_1_0 i_7_0).bind fun v_20 =>
  (law19_step_fa9 (p12_0_0.1, p12_0_0.2.1, p12_0_0.2.2.1, ()) l_6_0 most_0_0 v_20).bind fun r_21 =>
  some (.inl ((most_0_0, ops_1_0, r_21.1.1, (IntKind.i64.wrap (i_7_0 + 1)), ()), r_21.2.1, ()))
 else
 ((exact_Map_List_bb9 (p12_0_0.1, p12_0_0.2.1, p12_0_0.2.2.1, ())).bind fun r_23 =>
 bif (!decide ((r_23.1.1.length : Int) = (l_6_0.length : Int))) then
  some ((false, ()), ())
 else
 loopR (fun (z : ((List ((Int × Int × Int × Unit) × Int × Unit)) × (List ((Int × Int × Int × Unit) × Int × Unit)) × Int × Unit) × (Unit)) => law19_ExactLists_s2 z.1.1 z.1.2.1 z.1.2.2.1) ((l_6_0, r_23.1.1, 0, ()), ())).map .inr
noncomputable def law19_ExactLists (most_0 : Int) (ops_1 : List (Int × Int × (Int × Int × Int × Unit) × Unit)) : Option ((Bool × Unit) × (Unit)) :=
 (exact_New most_0).bind fun r_1 =>
 match r_1 with
 | .inl y_2 => let t23_3 : Bool := decide (most_0 < 1)
  guardR (!t23_3) (some ()) () fun _ =>
  guardR (!t23_3) (some (decide (most_0 > 256))) false fun v_4 =>
  let t28_6 : Bool := decide (true = (bif t23_3 then true else v_4))
  guardR t28_6 law19_lives ((false, ()), ()) fun r_7 =>
  some (((bif t28_6 then r_7.1.1 else false), ()), ())
 | .inr y_9 => bif (decide ((ops_1.length : Int) > 400)) then
   let t23_12 : Bool := decide (most_0 < 1)
   guardR (!t23_12) (some ()) () fun _ =>
   guardR (!t23_12) (some (decide (most_0 > 256))) false fun v_13 =>
   let t28_15 : Bool := decide (false = (bif t23_12 then true else v_13))
   guardR t28_15 law19_lives ((false, ()), ()) fun r_16 =>
   some (((bif t28_15 then r_16.1.1 else false), ()), ())
  else
  loopR (fun (z : (Int × (List (Int × Int × (Int × Int × Int × Unit) × Unit)) × (List ((Int × Int × Int × Unit) × Int × Unit)) × Int × Unit) × (((List (Bool × ((Int × Int × Int × Unit) × Int × Unit) × Unit)) × Int × Int × Unit) × Unit)) => law19_ExactLists_s0 z.1.1 z.1.2.1 z.1.2.2.1 z.1.2.2.2.1 z.2.1) ((most_0, ops_1, [], 0, ()), y_9.1.1, ())

noncomputable def sg5 : Sig := ⟨[.val (.int .i64), .val (.slice (.agg (.pair (.int .i64) (.pair (.int .i64) (.pair (.agg (.pair (.int .i64) (.pair (.int .u64) (.pair (.int .u64) .unit)))) .unit)))))], [.val .bool], []⟩
noncomputable def sm5 : CSem := mkSem sg5 fun x => law19_ExactLists x.1 x.2.1
noncomputable def cf5 : Cfg := cf [(9, sem9), (8, sem8), (14, sem14), (17, sem17), (18, sem18), (19, sem19)] 104 0 [(2, ⟨[(6, .dat (.slice (.agg (.pair (.agg (.pair (.int .i64) (.pair (.int .u64) (.pair (.int .u64) .unit)))) (.pair (.int .i64) .unit))))), (8, .own (.agg (.pair (.agg (.pair (.int .i64) (.pair (.int .u64) (.pair (.int .u64) .unit)))) (.pair (.int .i64) .unit))) false), (9, .dat (.int .i64))], []⟩), (0, ⟨[(0, .dat (.int .i64)), (1, .dat (.slice (.agg (.pair (.int .i64) (.pair (.int .i64) (.pair (.agg (.pair (.int .i64) (.pair (.int .u64) (.pair (.int .u64) .unit)))) .unit)))))), (5, .loc (nameOf 12 0) []), (6, .dat (.slice (.agg (.pair (.agg (.pair (.int .i64) (.pair (.int .u64) (.pair (.int .u64) .unit)))) (.pair (.int .i64) .unit))))), (7, .dat (.int .i64))], [((nameOf 12 0), (.agg (.pair (.own (.agg (.pair .bool (.pair (.agg (.pair (.agg (.pair (.int .i64) (.pair (.int .u64) (.pair (.int .u64) .unit)))) (.pair (.int .i64) .unit))) .unit)))) (.pair (.int .i64) (.pair (.int .i64) .unit)))))]⟩)]

noncomputable def sem5 : CSem := sm5

noncomputable def sg36 : Sig := ⟨[.val (.slice (.agg (.pair .bool (.pair (.agg (.pair (.agg (.pair (.int .i64) (.pair (.int .u64) (.pair (.int .u64) .unit)))) (.pair (.int .i64) .unit))) .unit))))], [.own (.own (.agg (.pair .bool (.pair (.agg (.pair (.agg (.pair (.int .i64) (.pair (.int .u64) (.pair (.int .u64) .unit)))) (.pair (.int .i64) .unit))) .unit))))], []⟩
noncomputable def sm36 : CSem := mkSem sg36 fun x => slices_Clone_exact_slot_exact_slot x.1
noncomputable def cf36 : Cfg := cfs [] 8 0 []

noncomputable def sem36 : CSem := sm36

noncomputable def sg20 : Sig := ⟨[.val .nilp], [.val .nilp], []⟩
noncomputable def sm20 : CSem := mkSem sg20 fun x => exact_Map_Copy_d35 x.1
noncomputable def cf20 : Cfg := cfs [] 20 0 []

noncomputable def sg20a : Sig := ⟨[.obj (.agg (.pair (.own (.agg (.pair .bool (.pair (.agg (.pair (.agg (.pair (.int .i64) (.pair (.int .u64) (.pair (.int .u64) .unit)))) (.pair (.int .i64) .unit))) .unit)))) (.pair (.int .i64) (.pair (.int .i64) .unit))))], [.ptr (.agg (.pair (.own (.agg (.pair .bool (.pair (.agg (.pair (.agg (.pair (.int .i64) (.pair (.int .u64) (.pair (.int .u64) .unit)))) (.pair (.int .i64) .unit))) .unit)))) (.pair (.int .i64) (.pair (.int .i64) .unit))))], [(.agg (.pair (.own (.agg (.pair .bool (.pair (.agg (.pair (.agg (.pair (.int .i64) (.pair (.int .u64) (.pair (.int .u64) .unit)))) (.pair (.int .i64) .unit))) .unit)))) (.pair (.int .i64) (.pair (.int .i64) .unit))))]⟩
noncomputable def sm20a : CSem := mkSem sg20a fun x => exact_Map_Copy_bb9 x.1
noncomputable def cf20a : Cfg := cfs [(36, sem36)] 20 1 []

noncomputable def sem20 : CSem := orSem sm20 (sm20a)

noncomputable def law19_ExactCopies_s4 (l_9_4 : List ((Int × Int × Int × Unit) × Int × Unit)) (got_14_4 : List ((Int × Int × Int × Unit) × Int × Unit)) (i_15_4 : Int) : Option ((((List ((Int × Int × Int × Unit) × Int × Unit)) × (List ((Int × Int × Int × Unit) × Int × Unit)) × Int × Unit) × (Unit)) ⊕ ((Bool × Unit) × (Unit))) :=
 bif (decide (i_15_4 < (got_14_4.length : Int))) then
  (Option.map (fun _ => i_15_4) (ckI i_15_4 got_14_4.length)).bind fun v_56 =>
  ((rdI got_14_4 v_56).map (·.1)).bind fun v_57 =>
  (ref19_Find l_9_4 v_57).bind fun r_58 =>
  let t141_59 : Bool := decide (r_58.1.1 < 0)
  guardR (!t141_59) (some ()) () fun _ =>
  guardR (!t141_59) (some ()) () fun _ =>
  guardR (!t141_59) (rdI l_9_4 r_58.1.1) ((0, 0, 0, ()), 0, ()) fun v_60 =>
  guardR (!t141_59) (some v_60.2.1) 0 fun v_61 =>
  guardR (!t141_59) (some ()) () fun _ =>
  guardR (!t141_59) (some ()) () fun _ =>
  guardR (!t141_59) (some ()) () fun _ =>
  guardR (!t141_59) (Option.map (fun _ => i_15_4) (ckI i_15_4 got_14_4.length)) 0 fun v_62 =>
  guardR (!t141_59) (some ()) () fun _ =>
  guardR (!t141_59) (((rdI got_14_4 v_62).map (·.2)).map (·.1)) 0 fun v_63 =>
  guardR (!t141_59) (some (!decide (v_61 = v_63))) false fun v_64 =>
  bif (bif t141_59 then true else v_64) then
   some (.inr ((false, ()), ()))
  else
  some (.inl ((l_9_4, got_14_4, (IntKind.i64.wrap (i_15_4 + 1)), ()), ()))
 else
 (law19_lives.bind fun r_67 =>
 some ((r_67.1.1, ()), ())).map .inr
noncomputable def law19_ExactCopies_s2 (more_1_2 : List (Int × Int × (Int × Int × Int × Unit) × Unit)) (l_9_2 : List ((Int × Int × Int × Unit) × Int × Unit)) (x_10_2 : List ((Int × Int × Int × Unit) × Int × Unit)) (i_13_2 : Int) (p76_0_2 : (List (Bool × ((Int × Int × Int × Unit) × Int × Unit) × Unit)) × Int × Int × Unit) (p96_0_2 : (List (Bool × ((Int × Int × Int × Unit) × Int × Unit) × Unit)) × Int × Int × Unit) : Option ((((List (Int × Int × (Int × Int × Int × Unit) × Unit)) × (List ((Int × Int × Int × Unit) × Int × Unit)) × (List ((Int × Int × Int × Unit) × Int × Unit)) × Int × Unit) × (((List (Bool × ((Int × Int × Int × Unit) × Int × Unit) × Unit)) × Int × Int × Unit) × ((List (Bool × ((Int × Int × Int × Unit) × Int × Unit) × Unit)) × Int × Int × Unit) × Unit)) ⊕ ((Bool × Unit) × (Unit))) :=
 bif (decide (i_13_2 < (more_1_2.length : Int))) then
  (rdI more_1_2 i_13_2).bind fun v_43 =>
  (law19_step_fa9 (p96_0_2.1, p96_0_2.2.1, p96_0_2.2.2.1, ()) x_10_2 40 v_43).bind fun r_44 =>
  some (.inl ((more_1_2, l_9_2, r_44.1.1, (IntKind.i64.wrap (i_13_2 + 1)), ()), (p76_0_2.1, p76_0_2.2.1, p76_0_2.2.2.1, ()), r_44.2.1, ()))
 else
 ((exact_Map_List_bb9 (p76_0_2.1, p76_0_2.2.1, p76_0_2.2.2.1, ())).bind fun r_46 =>
 let t119_49 : Bool := !decide ((r_46.1.1.length : Int) = (l_9_2.length : Int))
 guardR (!t119_49) (some ()) () fun _ =>
 guardR (!t119_49) (exact_Map_Len_bb9 r_46.2.1) ((0, ()), ([], 0, 0, ()), ()) fun r_50 =>
 guardR (!t119_49) (some ()) () fun _ =>
 guardR (!t119_49) (some (l_9_2.length : Int)) 0 fun v_51 =>
 guardR (!t119_49) (some (!decide (r_50.1.1 = v_51))) false fun v_52 =>
 bif (bif t119_49 then true else v_52) then
  some ((false, ()), ())
 else
 loopR (fun (z : ((List ((Int × Int × Int × Unit) × Int × Unit)) × (List ((Int × Int × Int × Unit) × Int × Unit)) × Int × Unit) × (Unit)) => law19_ExactCopies_s4 z.1.1 z.1.2.1 z.1.2.2.1) ((l_9_2, r_46.1.1, 0, ()), ())).map .inr
noncomputable def law19_ExactCopies_s0 (ops_0_0 : List (Int × Int × (Int × Int × Int × Unit) × Unit)) (more_1_0 : List (Int × Int × (Int × Int × Int × Unit) × Unit)) (l_9_0 : List ((Int × Int × Int × Unit) × Int × Unit)) (x_10_0 : Unit) (i_11_0 : Int) (p76_0_0 : (List (Bool × ((Int × Int × Int × Unit) × Int × Unit) × Unit)) × Int × Int × Unit) : Option ((((List (Int × Int × (Int × Int × Int × Unit) × Unit)) × (List (Int × Int × (Int × Int × Int × Unit) × Unit)) × (List ((Int × Int × Int × Unit) × Int × Unit)) × Unit × Int × Unit) × (((List (Bool × ((Int × Int × Int × Unit) × Int × Unit) × Unit)) × Int × Int × Unit) × Unit)) ⊕ ((Bool × Unit) × (Unit))) :=
 bif (decide (i_11_0 < (ops_0_0.length : Int))) then
  (rdI ops_0_0 i_11_0).bind fun v_37 =>
  (law19_step_fa9 (p76_0_0.1, p76_0_0.2.1, p76_0_0.2.2.1, ()) l_9_0 40 v_37).bind fun r_38 =>
  some (.inl ((ops_0_0, more_1_0, r_38.1.1, x_10_0, (IntKind.i64.wrap (i_11_0 + 1)), ()), r_38.2.1, ()))
 else
 ((exact_Map_Copy_bb9 (p76_0_0.1, p76_0_0.2.1, p76_0_0.2.2.1, ())).bind fun r_40 =>
 loopR (fun (z : ((List (Int × Int × (Int × Int × Int × Unit) × Unit)) × (List ((Int × Int × Int × Unit) × Int × Unit)) × (List ((Int × Int × Int × Unit) × Int × Unit)) × Int × Unit) × (((List (Bool × ((Int × Int × Int × Unit) × Int × Unit) × Unit)) × Int × Int × Unit) × ((List (Bool × ((Int × Int × Int × Unit) × Int × Unit) × Unit)) × Int × Int × Unit) × Unit)) => law19_ExactCopies_s2 z.1.1 z.1.2.1 z.1.2.2.1 z.1.2.2.2.1 z.2.1 z.2.2.1) ((more_1_0, l_9_0, [], 0, ()), r_40.2.1, r_40.1.1, ())).map .inr
noncomputable def law19_ExactCopies (ops_0 : List (Int × Int × (Int × Int × Int × Unit) × Unit)) (more_1 : List (Int × Int × (Int × Int × Int × Unit) × Unit)) : Option ((Bool × Unit) × (Unit)) :=
 (exact_Map_Get_052 () (1, 0, 0, ())).bind fun r_1 =>
 let t24_2 : Bool := !decide (r_1.1.1 = 0)
 guardR (!t24_2) (some ()) () fun _ =>
 let t27_3 : Bool := bif t24_2 then true else r_1.1.2.1
 guardR (!t27_3) (some ()) () fun _ =>
 guardR (!t27_3) (some ()) () fun _ =>
 guardR (!t27_3) (exact_Map_Put_01a () (1, 0, 0, ()) 1) ((0, ()), ()) fun r_4 =>
 guardR (!t27_3) (some (!decide (r_4.1.1 = 1))) false fun v_5 =>
 let t33_6 : Bool := bif t27_3 then true else v_5
 guardR (!t33_6) (some ()) () fun _ =>
 guardR (!t33_6) (some ()) () fun _ =>
 guardR (!t33_6) (exact_Map_Set_01a () (1, 0, 0, ()) 1) ((0, ()), ()) fun r_7 =>
 guardR (!t33_6) (some (!decide (r_7.1.1 = 1))) false fun v_8 =>
 let t39_9 : Bool := bif t33_6 then true else v_8
 guardR (!t39_9) (some ()) () fun _ =>
 guardR (!t39_9) (some ()) () fun _ =>
 guardR (!t39_9) (exact_Map_Drop_052 () (1, 0, 0, ())) ((0, ()), ()) fun r_10 =>
 guardR (!t39_9) (some (!decide (r_10.1.1 = 1))) false fun v_11 =>
 let t45_12 : Bool := bif t39_9 then true else v_11
 guardR (!t45_12) (some ()) () fun _ =>
 guardR (!t45_12) (exact_Map_Len_d35 ()) ((0, ()), ()) fun r_13 =>
 guardR (!t45_12) (some (!decide (r_13.1.1 = 0))) false fun v_14 =>
 let t50_15 : Bool := bif t45_12 then true else v_14
 guardR (!t50_15) (some ()) () fun _ =>
 guardR (!t50_15) (exact_Map_Room_d35 ()) ((0, ()), ()) fun r_16 =>
 guardR (!t50_15) (some (!decide (r_16.1.1 = 0))) false fun v_17 =>
 let t55_18 : Bool := bif t50_15 then true else v_17
 guardR (!t55_18) (some ()) () fun _ =>
 guardR (!t55_18) (exact_Map_List_d35 ()) (((), ()), ()) fun r_19 =>
 guardR (!t55_18) (some (0 : Int)) 0 fun v_20 =>
 guardR (!t55_18) (some (!decide (v_20 = 0))) false fun v_21 =>
 let t61_22 : Bool := bif t55_18 then true else v_21
 guardR (!t61_22) (some ()) () fun _ =>
 guardR (!t61_22) (exact_Map_Copy_d35 ()) (((), ()), ()) fun r_23 =>
 guardR (!t61_22) (some false) false fun v_24 =>
 bif (bif t61_22 then true else v_24) then
  some ((false, ()), ())
 else
 let t69_27 : Bool := decide ((ops_0.length : Int) > 200)
 guardR (!t69_27) (some ()) () fun _ =>
 guardR (!t69_27) (some (more_1.length : Int)) 0 fun v_28 =>
 guardR (!t69_27) (some (decide (v_28 > 200))) false fun v_29 =>
 bif (bif t69_27 then true else v_29) then
  law19_lives.bind fun r_31 =>
  some ((r_31.1.1, ()), ())
 else
 (exact_New 40).bind fun r_32 =>
 match r_32 with
 | .inl y_33 => some ((false, ()), ())
 | .inr y_34 => loopR (fun (z : ((List (Int × Int × (Int × Int × Int × Unit) × Unit)) × (List (Int × Int × (Int × Int × Int × Unit) × Unit)) × (List ((Int × Int × Int × Unit) × Int × Unit)) × Unit × Int × Unit) × (((List (Bool × ((Int × Int × Int × Unit) × Int × Unit) × Unit)) × Int × Int × Unit) × Unit)) => law19_ExactCopies_s0 z.1.1 z.1.2.1 z.1.2.2.1 z.1.2.2.2.1 z.1.2.2.2.2.1 z.2.1) ((ops_0, more_1, [], (), 0, ()), y_34.1.1, ())

noncomputable def sg6 : Sig := ⟨[.val (.slice (.agg (.pair (.int .i64) (.pair (.int .i64) (.pair (.agg (.pair (.int .i64) (.pair (.int .u64) (.pair (.int .u64) .unit)))) .unit))))), .val (.slice (.agg (.pair (.int .i64) (.pair (.int .i64) (.pair (.agg (.pair (.int .i64) (.pair (.int .u64) (.pair (.int .u64) .unit)))) .unit)))))], [.val .bool], []⟩
noncomputable def sm6 : CSem := mkSem sg6 fun x => law19_ExactCopies x.1 x.2.1
noncomputable def cf6 : Cfg := cf [(13, sem13), (10, sem10), (11, sem11), (12, sem12), (15, sem15), (16, sem16), (17, sem17), (20, sem20), (8, sem8), (9, sem9), (14, sem14), (18, sem18)] 156 0 [(4, ⟨[(9, .dat (.slice (.agg (.pair (.agg (.pair (.int .i64) (.pair (.int .u64) (.pair (.int .u64) .unit)))) (.pair (.int .i64) .unit))))), (14, .own (.agg (.pair (.agg (.pair (.int .i64) (.pair (.int .u64) (.pair (.int .u64) .unit)))) (.pair (.int .i64) .unit))) false), (15, .dat (.int .i64))], []⟩), (2, ⟨[(1, .dat (.slice (.agg (.pair (.int .i64) (.pair (.int .i64) (.pair (.agg (.pair (.int .i64) (.pair (.int .u64) (.pair (.int .u64) .unit)))) .unit)))))), (8, .loc (nameOf 76 0) []), (9, .dat (.slice (.agg (.pair (.agg (.pair (.int .i64) (.pair (.int .u64) (.pair (.int .u64) .unit)))) (.pair (.int .i64) .unit))))), (10, .dat (.slice (.agg (.pair (.agg (.pair (.int .i64) (.pair (.int .u64) (.pair (.int .u64) .unit)))) (.pair (.int .i64) .unit))))), (12, .loc (nameOf 96 0) []), (13, .dat (.int .i64))], [((nameOf 76 0), (.agg (.pair (.own (.agg (.pair .bool (.pair (.agg (.pair (.agg (.pair (.int .i64) (.pair (.int .u64) (.pair (.int .u64) .unit)))) (.pair (.int .i64) .unit))) .unit)))) (.pair (.int .i64) (.pair (.int .i64) .unit))))), ((nameOf 96 0), (.agg (.pair (.own (.agg (.pair .bool (.pair (.agg (.pair (.agg (.pair (.int .i64) (.pair (.int .u64) (.pair (.int .u64) .unit)))) (.pair (.int .i64) .unit))) .unit)))) (.pair (.int .i64) (.pair (.int .i64) .unit)))))]⟩), (0, ⟨[(0, .dat (.slice (.agg (.pair (.int .i64) (.pair (.int .i64) (.pair (.agg (.pair (.int .i64) (.pair (.int .u64) (.pair (.int .u64) .unit)))) .unit)))))), (1, .dat (.slice (.agg (.pair (.int .i64) (.pair (.int .i64) (.pair (.agg (.pair (.int .i64) (.pair (.int .u64) (.pair (.int .u64) .unit)))) .unit)))))), (8, .loc (nameOf 76 0) []), (9, .dat (.slice (.agg (.pair (.agg (.pair (.int .i64) (.pair (.int .u64) (.pair (.int .u64) .unit)))) (.pair (.int .i64) .unit))))), (10, .dat (.nils (.agg (.pair (.agg (.pair (.int .i64) (.pair (.int .u64) (.pair (.int .u64) .unit)))) (.pair (.int .i64) .unit))))), (11, .dat (.int .i64))], [((nameOf 76 0), (.agg (.pair (.own (.agg (.pair .bool (.pair (.agg (.pair (.agg (.pair (.int .i64) (.pair (.int .u64) (.pair (.int .u64) .unit)))) (.pair (.int .i64) .unit))) .unit)))) (.pair (.int .i64) (.pair (.int .i64) .unit)))))]⟩)]

noncomputable def sem6 : CSem := sm6

end Go.Proofs.Ytnaclmcmicckeaa

namespace Go.Proofs.Ytnaclmcmicckeaa
open Go Go.Pv Go.Proofs Go.L
set_option maxRecDepth 100000

theorem r35 (x : ArgT ag35) : runFAM cf35 ag35 al35 (bodyOf Try.f35) [(6, some 25), (7, none)] x = ref02_Two x.1 x.2.1 x.2.2.1 := by kernel_rfl

end Go.Proofs.Ytnaclmcmicckeaa

namespace Go.Proofs.Ytnaclmcmicckeaa
open Go Go.Pv Go.Proofs Go.L
set_option maxRecDepth 100000

theorem r14 (x : ArgT sg14.args) : runFM cf14 sg14 (bodyOf Try.f14) [8, 9] x = law19_step_fa9 x.1 x.2.1 x.2.2.1 x.2.2.2.1 := by kernel_rfl

theorem r40 (x : ArgT sg40.args) : runFM cf40 sg40 (bodyOf Try.f40) [6] x = exact_between x.1 x.2.1 x.2.2.1 := by kernel_rfl

theorem r13 (x : ArgT sg13.args) : runFM cf13 sg13 (bodyOf Try.f13) [4, 5] x = exact_Map_Get_ca4 x.1 x.2.1 := by kernel_rfl

theorem r3 (x : ArgT sg3.args) : runFM cf3 sg3 (bodyOf Try.f3) [6] x = law19_ExactKeeps x.1 x.2.1 x.2.2.1 := by kernel_rfl

theorem r16 (x : ArgT sg16.args) : runFM cf16 sg16 (bodyOf Try.f16) [2] x = exact_Map_Room_bb9 x.1 := by kernel_rfl

theorem r6 (x : ArgT sg6.args) : runFM cf6 sg6 (bodyOf Try.f6) [4] x = law19_ExactCopies x.1 x.2.1 := by kernel_rfl

theorem r31 (x : ArgT sg31.args) : runFM cf31 sg31 (bodyOf Try.f31) [2] x = cmp_Or_int x.1 := by kernel_rfl

theorem r21 (x : ArgT sg21.args) : runFM cf21 sg21 (bodyOf Try.f21) [2] x = ref01_Len x.1 := by kernel_rfl

theorem r37 (x : ArgT sg37.args) : runFM cf37 sg37 (bodyOf Try.f37) [2] x = vec_May x.1 := by kernel_rfl

theorem r8 (x : ArgT sg8.args) : runFM cf8 sg8 (bodyOf Try.f8) [0] x = law19_lives := by kernel_rfl

end Go.Proofs.Ytnaclmcmicckeaa

namespace Go.Proofs.Ytnaclmcmicckeaa
open Go Go.Pv Go.Proofs Go.L
set_option maxRecDepth 100000

theorem r44 (x : ArgT ag44) : runFAM cf44 ag44 al44 (bodyOf Try.f44) [(4, some 71), (5, none)] x = word_Sub x.1 x.2.1 := by kernel_rfl

theorem r10a (x : ArgT sg10a.args) : runFM cf10a sg10a (bodyOf Try.f10) [6] x = exact_Map_Put_01a x.1 x.2.1 x.2.2.1 := by kernel_rfl

theorem r11a (x : ArgT sg11a.args) : runFM cf11a sg11a (bodyOf Try.f11) [6] x = exact_Map_Set_01a x.1 x.2.1 x.2.2.1 := by kernel_rfl

theorem r10 (x : ArgT sg10.args) : runFM cf10 sg10 (bodyOf Try.f10) [6] x = exact_Map_Put_767 x.1 x.2.1 x.2.2.1 := by kernel_rfl

theorem r13a (x : ArgT sg13a.args) : runFM cf13a sg13a (bodyOf Try.f13) [4, 5] x = exact_Map_Get_052 x.1 x.2.1 := by kernel_rfl

theorem r12a (x : ArgT sg12a.args) : runFM cf12a sg12a (bodyOf Try.f12) [4] x = exact_Map_Drop_052 x.1 x.2.1 := by kernel_rfl

theorem r24 (x : ArgT sg24.args) : runFM cf24 sg24 (bodyOf Try.f24) [4, 5] x = exact_Map_find_ca4 x.1 x.2.1 := by kernel_rfl

theorem r38 (x : ArgT sg38.args) : runFM cf38 sg38 (bodyOf Try.f38) [4] x = exact_Map_home_ca4 x.1 x.2.1 := by kernel_rfl

theorem r12 (x : ArgT sg12.args) : runFM cf12 sg12 (bodyOf Try.f12) [4] x = exact_Map_Drop_ca4 x.1 x.2.1 := by kernel_rfl

theorem r23 (x : ArgT sg23.args) : runFM cf23 sg23 (bodyOf Try.f23) [4] x = exact_Map_may_ca4 x.1 x.2.1 := by kernel_rfl

theorem r30 (x : ArgT sg30.args) : runFM cf30 sg30 (bodyOf Try.f30) [4] x = exact_Map_List_1 x.1 x.2.1 := by kernel_rfl

theorem r15a (x : ArgT sg15a.args) : runFM cf15a sg15a (bodyOf Try.f15) [2] x = exact_Map_Len_d35 x.1 := by kernel_rfl

theorem r32 (x : ArgT sg32.args) : runFM cf32 sg32 (bodyOf Try.f32) [4] x = cmp_Compare_int x.1 x.2.1 := by kernel_rfl

theorem r28 (x : ArgT sg28.args) : runFM cf28 sg28 (bodyOf Try.f28) [4, 5] x = ref19_Drop x.1 x.2.1 := by kernel_rfl

theorem r17 (x : ArgT sg17.args) : runFM cf17 sg17 (bodyOf Try.f17) [2] x = exact_Map_List_bb9 x.1 := by kernel_rfl

theorem r5 (x : ArgT sg5.args) : runFM cf5 sg5 (bodyOf Try.f5) [4] x = law19_ExactLists x.1 x.2.1 := by kernel_rfl

theorem r43 (x : ArgT sg43.args) : runFM cf43 sg43 (bodyOf Try.f43) [2] x = cmp_isNaN_int x.1 := by kernel_rfl

theorem r9 (x : ArgT ag9) : runFAM cf9 ag9 al9 (bodyOf Try.f9) [(2, none)] x = exact_New x.1 := by kernel_rfl

theorem r45 (x : ArgT sg45.args) : runFM cf45 sg45 (bodyOf Try.f45) [2] x = ref02_Bits x.1 := by kernel_rfl

theorem r47 (x : ArgT sg47.args) : runFM cf47 sg47 (bodyOf Try.f47) [2] x = vec_width x.1 := by kernel_rfl

theorem r48 (x : ArgT sg48.args) : runFM cf48 sg48 (bodyOf Try.f48) [2] x = word_Len x.1 := by kernel_rfl

theorem r7 (x : ArgT sg7.args) : runFM cf7 sg7 (bodyOf Try.f7) [2] x = ref02_May x.1 := by kernel_rfl

end Go.Proofs.Ytnaclmcmicckeaa

namespace Go.Proofs.Ytnaclmcmicckeaa
open Go Go.Pv Go.Proofs Go.L
set_option maxRecDepth 100000

theorem r26 (x : ArgT sg26.args) : runFM cf26 sg26 (bodyOf Try.f26) [8, 9] x = ref19_Put x.1 x.2.1 x.2.2.1 x.2.2.2.1 := by kernel_rfl

theorem r36 (x : ArgT sg36.args) : runFM cf36 sg36 (bodyOf Try.f36) [2] x = slices_Clone_exact_slot_exact_slot x.1 := by kernel_rfl

theorem r11 (x : ArgT sg11.args) : runFM cf11 sg11 (bodyOf Try.f11) [6] x = exact_Map_Set_767 x.1 x.2.1 x.2.2.1 := by kernel_rfl

theorem r23a (x : ArgT sg23a.args) : runFM cf23a sg23a (bodyOf Try.f23) [4] x = exact_Map_may_052 x.1 x.2.1 := by kernel_rfl

theorem r22 (x : ArgT ag22) : runFAM cf22 ag22 al22 (bodyOf Try.f22) [(4, some 54)] x = ref01_Of x.1 x.2.1 := by kernel_rfl

theorem r27 (x : ArgT sg27.args) : runFM cf27 sg27 (bodyOf Try.f27) [6, 7] x = ref19_Set x.1 x.2.1 x.2.2.1 := by kernel_rfl

theorem r39 (x : ArgT sg39.args) : runFM cf39 sg39 (bodyOf Try.f39) [4] x = exact_Map_next_deb x.1 x.2.1 := by kernel_rfl

theorem r25 (x : ArgT sg25.args) : runFM cf25 sg25 (bodyOf Try.f25) [] x = exact_Map_close_deb x.1 x.2.1 := by kernel_rfl

theorem r16a (x : ArgT sg16a.args) : runFM cf16a sg16a (bodyOf Try.f16) [2] x = exact_Map_Room_d35 x.1 := by kernel_rfl

theorem r17a (x : ArgT sg17a.args) : runFM cf17a sg17a (bodyOf Try.f17) [2] x = exact_Map_List_d35 x.1 := by kernel_rfl

theorem r20a (x : ArgT sg20a.args) : runFM cf20a sg20a (bodyOf Try.f20) [2] x = exact_Map_Copy_bb9 x.1 := by kernel_rfl

theorem r34 (x : ArgT ag34) : runFAM cf34 ag34 al34 (bodyOf Try.f34) [(2, some 71)] x = vec_Word x.1 := by kernel_rfl

theorem r46 (x : ArgT ag46) : runFAM cf46 ag46 al46 (bodyOf Try.f46) [(2, some 25)] x = ref02_Of x.1 := by kernel_rfl

theorem r20 (x : ArgT sg20.args) : runFM cf20 sg20 (bodyOf Try.f20) [2] x = exact_Map_Copy_d35 x.1 := by kernel_rfl

theorem r15 (x : ArgT sg15.args) : runFM cf15 sg15 (bodyOf Try.f15) [2] x = exact_Map_Len_bb9 x.1 := by kernel_rfl

theorem r4 (x : ArgT sg4.args) : runFM cf4 sg4 (bodyOf Try.f4) [4] x = law19_ExactPlays x.1 x.2.1 := by kernel_rfl

theorem r18 (x : ArgT sg18.args) : runFM cf18 sg18 (bodyOf Try.f18) [4] x = ref19_Find x.1 x.2.1 := by kernel_rfl

theorem r19 (x : ArgT sg19.args) : runFM cf19 sg19 (bodyOf Try.f19) [4] x = ref19_Less x.1 x.2.1 := by kernel_rfl

theorem r60 (x : ArgT sg60.args) : runFM cf60 sg60 (bodyOf Try.f60) [2, 3] x = ref01_Halves x.1 := by kernel_rfl

theorem r33 (x : ArgT sg33.args) : runFM cf33 sg33 (bodyOf Try.f33) [4] x = word_Cmp x.1 x.2.1 := by kernel_rfl

theorem r58 (x : ArgT sg58.args) : runFM cf58 sg58 (bodyOf Try.f58) [2] x = bits_Len64 x.1 := by kernel_rfl

end Go.Proofs.Ytnaclmcmicckeaa
