/- The functions of this seat, and the laws as plain Lean. -/
import Derived.Test.YtnaclmcmicckeaaProg
import Derived.Test.YtnaclmcmicckeaaQ7

set_option linter.unusedSimpArgs false
set_option linter.unusedVariables false

namespace Go.Proofs.Ytnaclmcmicckeaa
open Go Go.Pv Go.Proofs Go.L
set_option maxRecDepth 100000

noncomputable def bodyOf (f : Func) : Code := match f.body with | some c => c | none => .skip
noncomputable def cf (tab : List (Nat × CSem)) (nt nob : Nat) (ann : List (Nat × Shape)) : Cfg := ⟨Try.prog, fun f => lk f tab, nt, nob, fun n => lk n ann⟩
def Tab (tab : List (Nat × CSem)) : Prop := ∀ q ∈ tab, Contract Try.prog q.1 q.2
theorem Tab.nil : Tab [] := fun q h => by cases h
theorem Tab.cons {f : Nat} {sem : CSem} {l : List (Nat × CSem)} (h : Contract Try.prog f sem) (t : Tab l) : Tab ((f, sem) :: l) := fun q hq => by
  rcases List.mem_cons.1 hq with rfl | hq
  · exact h
  · exact t q hq

noncomputable def ag22 : List AK := [.val (.int .u64), .val (.int .u64)]
noncomputable def al22 : List Alt := [([.val (.agg (.arr 128 .bool))], [])]
noncomputable def sm22 : CSem := mkSemA ag22 al22 fun x => ref01_Of x.1 x.2.1
noncomputable def cf22 : Cfg := cf [] 27 0 [(0, ⟨[(0, .dat (.int .u64)), (1, .dat (.int .u64)), (4, .loc (nameOf 4 0) []), (5, .loc (nameOf 5 0) []), (6, .dat (.int .i64))], [((nameOf 4 0), (.agg (.arr 128 .bool))), ((nameOf 5 0), (.agg (.arr 128 .bool)))]⟩)]

noncomputable def sem22 : CSem := sm22

noncomputable def sg21 : Sig := ⟨[.val (.agg (.arr 128 .bool))], [.val (.int .i64)], []⟩
noncomputable def sm21 : CSem := mkSem sg21 fun x => ref01_Len x.1
noncomputable def cf21 : Cfg := cf [] 13 0 [(0, ⟨[(1, .loc (nameOf 1 0) []), (3, .dat (.int .i64))], [((nameOf 1 0), (.agg (.arr 128 .bool)))]⟩)]

noncomputable def sem21 : CSem := sm21

noncomputable def sg7 : Sig := ⟨[.val (.agg (.pair (.int .i64) (.pair (.int .u64) (.pair (.int .u64) .unit))))], [.val .bool], []⟩
noncomputable def sm7 : CSem := mkSem sg7 fun x => ref02_May x.1
noncomputable def cf7 : Cfg := cf [(22, sem22), (21, sem21)] 22 0 []

noncomputable def sem7 : CSem := sm7

noncomputable def ag9 : List AK := [.val (.int .i64)]
noncomputable def al9 : List Alt := [([.val .nilp], []), ([.ptr (.agg (.pair (.own (.agg (.pair .bool (.pair (.agg (.pair (.agg (.pair (.int .i64) (.pair (.int .u64) (.pair (.int .u64) .unit)))) (.pair (.int .i64) .unit))) .unit)))) (.pair (.int .i64) (.pair (.int .i64) .unit))))], [])]
noncomputable def sm9 : CSem := mkSemA ag9 al9 fun x => exact_New x.1
noncomputable def cf9 : Cfg := cf [] 21 0 [(0, ⟨[(0, .dat (.int .i64)), (3, .dat (.int .i64))], []⟩)]

noncomputable def sem9 : CSem := sm9

noncomputable def sg47 : Sig := ⟨[.val (.int .i64)], [.val .bool], []⟩
noncomputable def sm47 : CSem := mkSem sg47 fun x => vec_width x.1
noncomputable def cf47 : Cfg := cf [] 9 0 []

noncomputable def sem47 : CSem := sm47

noncomputable def ag34 : List AK := [.val (.agg (.pair (.int .i64) (.pair (.int .u64) (.pair (.int .u64) .unit))))]
noncomputable def al34 : List Alt := [([.val (.agg (.pair (.int .u64) (.pair (.int .u64) .unit)))], [])]
noncomputable def sm34 : CSem := mkSemA ag34 al34 fun x => vec_Word x.1
noncomputable def cf34 : Cfg := cf [] 8 0 []

noncomputable def sem34 : CSem := sm34

noncomputable def sg58 : Sig := ⟨[.val (.int .u64)], [.val (.int .i64)], []⟩
noncomputable def sm58 : CSem := mkSem sg58 fun x => bits_Len64 x.1
noncomputable def cf58 : Cfg := cf [] 25 0 []

noncomputable def sem58 : CSem := sm58

noncomputable def sg48 : Sig := ⟨[.val (.agg (.pair (.int .u64) (.pair (.int .u64) .unit)))], [.val (.int .i64)], []⟩
noncomputable def sm48 : CSem := mkSem sg48 fun x => word_Len x.1
noncomputable def cf48 : Cfg := cf [(58, sem58)] 13 0 []

noncomputable def sem48 : CSem := sm48

noncomputable def sg37 : Sig := ⟨[.val (.agg (.pair (.int .i64) (.pair (.int .u64) (.pair (.int .u64) .unit))))], [.val .bool], []⟩
noncomputable def sm37 : CSem := mkSem sg37 fun x => vec_May x.1
noncomputable def cf37 : Cfg := cf [(47, sem47), (34, sem34), (48, sem48)] 14 0 []

noncomputable def sem37 : CSem := sm37

noncomputable def sg23 : Sig := ⟨[.obj (.agg (.pair (.own (.agg (.pair .bool (.pair (.agg (.pair (.agg (.pair (.int .i64) (.pair (.int .u64) (.pair (.int .u64) .unit)))) (.pair (.int .i64) .unit))) .unit)))) (.pair (.int .i64) (.pair (.int .i64) .unit)))), .val (.agg (.pair (.int .i64) (.pair (.int .u64) (.pair (.int .u64) .unit))))], [.val .bool], [(.agg (.pair (.own (.agg (.pair .bool (.pair (.agg (.pair (.agg (.pair (.int .i64) (.pair (.int .u64) (.pair (.int .u64) .unit)))) (.pair (.int .i64) .unit))) .unit)))) (.pair (.int .i64) (.pair (.int .i64) .unit))))]⟩
noncomputable def sm23 : CSem := mkSem sg23 fun x => exact_Map_may_ca4 x.1 x.2.1
noncomputable def cf23 : Cfg := cf [(37, sem37)] 11 1 []

noncomputable def sem23 : CSem := sm23

noncomputable def sg38 : Sig := ⟨[.obj (.agg (.pair (.own (.agg (.pair .bool (.pair (.agg (.pair (.agg (.pair (.int .i64) (.pair (.int .u64) (.pair (.int .u64) .unit)))) (.pair (.int .i64) .unit))) .unit)))) (.pair (.int .i64) (.pair (.int .i64) .unit)))), .val (.agg (.pair (.int .i64) (.pair (.int .u64) (.pair (.int .u64) .unit))))], [.val (.int .i64)], [(.agg (.pair (.own (.agg (.pair .bool (.pair (.agg (.pair (.agg (.pair (.int .i64) (.pair (.int .u64) (.pair (.int .u64) .unit)))) (.pair (.int .i64) .unit))) .unit)))) (.pair (.int .i64) (.pair (.int .i64) .unit))))]⟩
noncomputable def sm38 : CSem := mkSem sg38 fun x => exact_Map_home_ca4 x.1 x.2.1
noncomputable def cf38 : Cfg := cf [] 37 1 [(0, ⟨[(0, .loc (objName 0) []), (5, .dat (.int .u64)), (15, .dat (.agg (.arr 3 (.int .u64)))), (16, .dat (.int .i64))], [((objName 0), (.agg (.pair (.own (.agg (.pair .bool (.pair (.agg (.pair (.agg (.pair (.int .i64) (.pair (.int .u64) (.pair (.int .u64) .unit)))) (.pair (.int .i64) .unit))) .unit)))) (.pair (.int .i64) (.pair (.int .i64) .unit)))))]⟩)]

noncomputable def sem38 : CSem := sm38

noncomputable def sg39 : Sig := ⟨[.obj (.agg (.pair (.own (.agg (.pair .bool (.pair (.agg (.pair (.agg (.pair (.int .i64) (.pair (.int .u64) (.pair (.int .u64) .unit)))) (.pair (.int .i64) .unit))) .unit)))) (.pair (.int .i64) (.pair (.int .i64) .unit)))), .val (.int .i64)], [.val (.int .i64)], [(.agg (.pair (.own (.agg (.pair .bool (.pair (.agg (.pair (.agg (.pair (.int .i64) (.pair (.int .u64) (.pair (.int .u64) .unit)))) (.pair (.int .i64) .unit))) .unit)))) (.pair (.int .i64) (.pair (.int .i64) .unit))))]⟩
noncomputable def sm39 : CSem := mkSem sg39 fun x => exact_Map_next_deb x.1 x.2.1
noncomputable def cf39 : Cfg := cf [] 13 1 []

noncomputable def sem39 : CSem := sm39

noncomputable def sg24 : Sig := ⟨[.obj (.agg (.pair (.own (.agg (.pair .bool (.pair (.agg (.pair (.agg (.pair (.int .i64) (.pair (.int .u64) (.pair (.int .u64) .unit)))) (.pair (.int .i64) .unit))) .unit)))) (.pair (.int .i64) (.pair (.int .i64) .unit)))), .val (.agg (.pair (.int .i64) (.pair (.int .u64) (.pair (.int .u64) .unit))))], [.val (.int .i64), .val .bool], [(.agg (.pair (.own (.agg (.pair .bool (.pair (.agg (.pair (.agg (.pair (.int .i64) (.pair (.int .u64) (.pair (.int .u64) .unit)))) (.pair (.int .i64) .unit))) .unit)))) (.pair (.int .i64) (.pair (.int .i64) .unit))))]⟩
noncomputable def sm24 : CSem := mkSem sg24 fun x => exact_Map_find_ca4 x.1 x.2.1
noncomputable def cf24 : Cfg := cf [(38, sem38), (39, sem39)] 34 1 [(0, ⟨[(0, .loc (objName 0) []), (3, .loc (nameOf 3 0) []), (6, .dat (.int .i64))], [((nameOf 3 0), (.agg (.pair (.int .i64) (.pair (.int .u64) (.pair (.int .u64) .unit))))), ((objName 0), (.agg (.pair (.own (.agg (.pair .bool (.pair (.agg (.pair (.agg (.pair (.int .i64) (.pair (.int .u64) (.pair (.int .u64) .unit)))) (.pair (.int .i64) .unit))) .unit)))) (.pair (.int .i64) (.pair (.int .i64) .unit)))))]⟩)]

noncomputable def sem24 : CSem := sm24

noncomputable def sg10 : Sig := ⟨[.obj (.agg (.pair (.own (.agg (.pair .bool (.pair (.agg (.pair (.agg (.pair (.int .i64) (.pair (.int .u64) (.pair (.int .u64) .unit)))) (.pair (.int .i64) .unit))) .unit)))) (.pair (.int .i64) (.pair (.int .i64) .unit)))), .val (.agg (.pair (.int .i64) (.pair (.int .u64) (.pair (.int .u64) .unit)))), .val (.int .i64)], [.val (.int .i64)], [(.agg (.pair (.own (.agg (.pair .bool (.pair (.agg (.pair (.agg (.pair (.int .i64) (.pair (.int .u64) (.pair (.int .u64) .unit)))) (.pair (.int .i64) .unit))) .unit)))) (.pair (.int .i64) (.pair (.int .i64) .unit))))]⟩
noncomputable def sm10 : CSem := mkSem sg10 fun x => exact_Map_Put_767 x.1 x.2.1 x.2.2.1
noncomputable def cf10 : Cfg := cf [(23, sem23), (24, sem24)] 48 1 []

noncomputable def sem10 : CSem := sm10

noncomputable def sg13 : Sig := ⟨[.obj (.agg (.pair (.own (.agg (.pair .bool (.pair (.agg (.pair (.agg (.pair (.int .i64) (.pair (.int .u64) (.pair (.int .u64) .unit)))) (.pair (.int .i64) .unit))) .unit)))) (.pair (.int .i64) (.pair (.int .i64) .unit)))), .val (.agg (.pair (.int .i64) (.pair (.int .u64) (.pair (.int .u64) .unit))))], [.val (.int .i64), .val .bool], [(.agg (.pair (.own (.agg (.pair .bool (.pair (.agg (.pair (.agg (.pair (.int .i64) (.pair (.int .u64) (.pair (.int .u64) .unit)))) (.pair (.int .i64) .unit))) .unit)))) (.pair (.int .i64) (.pair (.int .i64) .unit))))]⟩
noncomputable def sm13 : CSem := mkSem sg13 fun x => exact_Map_Get_ca4 x.1 x.2.1
noncomputable def cf13 : Cfg := cf [(23, sem23), (24, sem24)] 28 1 []

noncomputable def sem13 : CSem := sm13

/-! ### shunter/shunterlaw19.lives -/
noncomputable def law19_lives : Option ((Bool × Unit) × (Unit)) :=
  (exact_New 1).bind fun r_1 =>
  match r_1 with
  | .inl y_2 => some ((false, ()), ())
  | .inr y_3 => (exact_Map_Put_767 y_3.1.1 (8, 0, 5, ()) 7).bind fun r_4 =>
    let t11_5 : Bool := !decide (r_4.1.1 = 0)
    guardR (!t11_5) (some ()) () fun _ =>
    guardR (!t11_5) (some ()) () fun _ =>
    guardR (!t11_5) (exact_Map_Put_767 r_4.2.1 (8, 0, 6, ()) 8) ((0, ()), ([], 0, 0, ()), ()) fun r_6 =>
    guardR (!t11_5) (some (!decide (r_6.1.1 = 8))) false fun v_7 =>
    bif (bif t11_5 then true else v_7) then
      some ((false, ()), ())
    else
    (exact_Map_Get_ca4 (bif !t11_5 then r_6.2.1 else r_4.2.1) (8, 0, 5, ())).bind fun r_9 =>
    let t26_10 : Bool := decide (r_9.1.1 = 7)
    guardR t26_10 (some ()) () fun _ =>
    some (((bif t26_10 then r_9.1.2.1 else false), ()), ())

noncomputable def sg8 : Sig := ⟨[], [.val .bool], []⟩
noncomputable def sm8 : CSem := mkSem sg8 fun x => law19_lives
noncomputable def cf8 : Cfg := cf [(9, sem9), (10, sem10), (13, sem13)] 30 0 []

noncomputable def sem8 : CSem := sm8

noncomputable def sg11 : Sig := ⟨[.obj (.agg (.pair (.own (.agg (.pair .bool (.pair (.agg (.pair (.agg (.pair (.int .i64) (.pair (.int .u64) (.pair (.int .u64) .unit)))) (.pair (.int .i64) .unit))) .unit)))) (.pair (.int .i64) (.pair (.int .i64) .unit)))), .val (.agg (.pair (.int .i64) (.pair (.int .u64) (.pair (.int .u64) .unit)))), .val (.int .i64)], [.val (.int .i64)], [(.agg (.pair (.own (.agg (.pair .bool (.pair (.agg (.pair (.agg (.pair (.int .i64) (.pair (.int .u64) (.pair (.int .u64) .unit)))) (.pair (.int .i64) .unit))) .unit)))) (.pair (.int .i64) (.pair (.int .i64) .unit))))]⟩
noncomputable def sm11 : CSem := mkSem sg11 fun x => exact_Map_Set_767 x.1 x.2.1 x.2.2.1
noncomputable def cf11 : Cfg := cf [(23, sem23), (24, sem24)] 30 1 []

noncomputable def sem11 : CSem := sm11

noncomputable def sg40 : Sig := ⟨[.val (.int .i64), .val (.int .i64), .val (.int .i64)], [.val .bool], []⟩
noncomputable def sm40 : CSem := mkSem sg40 fun x => exact_between x.1 x.2.1 x.2.2.1
noncomputable def cf40 : Cfg := cf [] 26 0 []

noncomputable def sem40 : CSem := sm40

noncomputable def sg25 : Sig := ⟨[.obj (.agg (.pair (.own (.agg (.pair .bool (.pair (.agg (.pair (.agg (.pair (.int .i64) (.pair (.int .u64) (.pair (.int .u64) .unit)))) (.pair (.int .i64) .unit))) .unit)))) (.pair (.int .i64) (.pair (.int .i64) .unit)))), .val (.int .i64)], [], [(.agg (.pair (.own (.agg (.pair .bool (.pair (.agg (.pair (.agg (.pair (.int .i64) (.pair (.int .u64) (.pair (.int .u64) .unit)))) (.pair (.int .i64) .unit))) .unit)))) (.pair (.int .i64) (.pair (.int .i64) .unit))))]⟩
noncomputable def sm25 : CSem := mkSem sg25 fun x => exact_Map_close_deb x.1 x.2.1
noncomputable def cf25 : Cfg := cf [(39, sem39), (38, sem38), (40, sem40)] 54 1 [(0, ⟨[(0, .loc (objName 0) []), (1, .dat (.int .i64)), (4, .dat (.int .i64))], [((objName 0), (.agg (.pair (.own (.agg (.pair .bool (.pair (.agg (.pair (.agg (.pair (.int .i64) (.pair (.int .u64) (.pair (.int .u64) .unit)))) (.pair (.int .i64) .unit))) .unit)))) (.pair (.int .i64) (.pair (.int .i64) .unit)))))]⟩)]

noncomputable def sem25 : CSem := sm25

noncomputable def sg12 : Sig := ⟨[.obj (.agg (.pair (.own (.agg (.pair .bool (.pair (.agg (.pair (.agg (.pair (.int .i64) (.pair (.int .u64) (.pair (.int .u64) .unit)))) (.pair (.int .i64) .unit))) .unit)))) (.pair (.int .i64) (.pair (.int .i64) .unit)))), .val (.agg (.pair (.int .i64) (.pair (.int .u64) (.pair (.int .u64) .unit))))], [.val (.int .i64)], [(.agg (.pair (.own (.agg (.pair .bool (.pair (.agg (.pair (.agg (.pair (.int .i64) (.pair (.int .u64) (.pair (.int .u64) .unit)))) (.pair (.int .i64) .unit))) .unit)))) (.pair (.int .i64) (.pair (.int .i64) .unit))))]⟩
noncomputable def sm12 : CSem := mkSem sg12 fun x => exact_Map_Drop_ca4 x.1 x.2.1
noncomputable def cf12 : Cfg := cf [(23, sem23), (24, sem24), (25, sem25)] 36 1 []

noncomputable def sem12 : CSem := sm12

/-! ### shunter/shunterlaw19.ExactKeeps -/
noncomputable def law19_ExactKeeps_s0 (ops_0_0 : List (Int × Int × (Int × Int × Int × Unit) × Unit)) (n_2_0 : Int) (i_8_0 : Int) (p22_0_0 : (List (Bool × ((Int × Int × Int × Unit) × Int × Unit) × Unit)) × Int × Int × Unit) (p4_0_0 : Int × Int × Int × Unit) : Option ((((List (Int × Int × (Int × Int × Int × Unit) × Unit)) × Int × Int × Unit) × (((List (Bool × ((Int × Int × Int × Unit) × Int × Unit) × Unit)) × Int × Int × Unit) × (Int × Int × Int × Unit) × Unit)) ⊕ ((Bool × Unit) × (Unit))) :=
  bif (decide (i_8_0 < (ops_0_0.length : Int))) then
    (rdI ops_0_0 i_8_0).bind fun v_14 =>
    bif (decide (v_14.2.2.1.1 = p4_0_0.1) && (decide (v_14.2.2.1.2.1 = p4_0_0.2.1) && decide (v_14.2.2.1.2.2.1 = p4_0_0.2.2.1))) then
      some (.inl ((ops_0_0, n_2_0, (IntKind.i64.wrap (i_8_0 + 1)), ()), (p22_0_0.1, p22_0_0.2.1, p22_0_0.2.2.1, ()), (p4_0_0.1, p4_0_0.2.1, p4_0_0.2.2.1, ()), ()))
    else
    (rdI ops_0_0 i_8_0).bind fun v_17 =>
    bif (decide (v_17.1 = 0)) then
      (rdI ops_0_0 i_8_0).bind fun v_19 =>
      (rdI ops_0_0 i_8_0).bind fun v_20 =>
      (exact_Map_Put_767 (p22_0_0.1, p22_0_0.2.1, p22_0_0.2.2.1, ()) v_19.2.2.1 v_20.2.1).bind fun r_21 =>
      (exact_Map_Get_ca4 r_21.2.1 (p4_0_0.1, p4_0_0.2.1, p4_0_0.2.2.1, ())).bind fun r_22 =>
      let t93_23 : Bool := !decide (r_22.1.1 = n_2_0)
      guardR (!t93_23) (some ()) () fun _ =>
      guardR (!t93_23) (some ()) () fun _ =>
      bif (bif t93_23 then true else !r_22.1.2.1) then
        some (.inr ((false, ()), ()))
      else
      some (.inl ((ops_0_0, n_2_0, (IntKind.i64.wrap (i_8_0 + 1)), ()), r_22.2.1, (p4_0_0.1, p4_0_0.2.1, p4_0_0.2.2.1, ()), ()))
    else
    bif (decide (v_17.1 = 1)) then
      (rdI ops_0_0 i_8_0).bind fun v_27 =>
      (rdI ops_0_0 i_8_0).bind fun v_28 =>
      (exact_Map_Set_767 (p22_0_0.1, p22_0_0.2.1, p22_0_0.2.2.1, ()) v_27.2.2.1 v_28.2.1).bind fun r_29 =>
      (exact_Map_Get_ca4 r_29.2.1 (p4_0_0.1, p4_0_0.2.1, p4_0_0.2.2.1, ())).bind fun r_30 =>
      let t93_31 : Bool := !decide (r_30.1.1 = n_2_0)
      guardR (!t93_31) (some ()) () fun _ =>
      guardR (!t93_31) (some ()) () fun _ =>
      bif (bif t93_31 then true else !r_30.1.2.1) then
        some (.inr ((false, ()), ()))
      else
      some (.inl ((ops_0_0, n_2_0, (IntKind.i64.wrap (i_8_0 + 1)), ()), r_30.2.1, (p4_0_0.1, p4_0_0.2.1, p4_0_0.2.2.1, ()), ()))
    else
    (rdI ops_0_0 i_8_0).bind fun v_34 =>
    (exact_Map_Drop_ca4 (p22_0_0.1, p22_0_0.2.1, p22_0_0.2.2.1, ()) v_34.2.2.1).bind fun r_35 =>
    (exact_Map_Get_ca4 r_35.2.1 (p4_0_0.1, p4_0_0.2.1, p4_0_0.2.2.1, ())).bind fun r_36 =>
    let t93_37 : Bool := !decide (r_36.1.1 = n_2_0)
    guardR (!t93_37) (some ()) () fun _ =>
    guardR (!t93_37) (some ()) () fun _ =>
    bif (bif t93_37 then true else !r_36.1.2.1) then
      some (.inr ((false, ()), ()))
    else
    some (.inl ((ops_0_0, n_2_0, (IntKind.i64.wrap (i_8_0 + 1)), ()), r_36.2.1, (p4_0_0.1, p4_0_0.2.1, p4_0_0.2.2.1, ()), ()))
  else
  ((exact_Map_Drop_ca4 (p22_0_0.1, p22_0_0.2.1, p22_0_0.2.2.1, ()) (p4_0_0.1, p4_0_0.2.1, p4_0_0.2.2.1, ())).bind fun r_40 =>
  bif (!decide (r_40.1.1 = 0)) then
    some ((false, ()), ())
  else
  (exact_Map_Get_ca4 r_40.2.1 (p4_0_0.1, p4_0_0.2.1, p4_0_0.2.2.1, ())).bind fun r_42 =>
  let t109_43 : Bool := decide (r_42.1.1 = 0)
  guardR t109_43 (some ()) () fun _ =>
  guardR t109_43 (some ()) () fun _ =>
  let t113_44 : Bool := bif t109_43 then !r_42.1.2.1 else false
  guardR t113_44 (some ()) () fun _ =>
  guardR t113_44 (some (p4_0_0.1, p4_0_0.2.1, p4_0_0.2.2.1, ())) (0, 0, 0, ()) fun v_45 =>
  guardR t113_44 (exact_Map_Drop_ca4 r_42.2.1 v_45) ((0, ()), ([], 0, 0, ()), ()) fun r_46 =>
  guardR t113_44 (some (decide (r_46.1.1 = 5))) false fun v_47 =>
  let t119_48 : Bool := bif t113_44 then v_47 else false
  guardR t119_48 law19_lives ((false, ()), ()) fun r_49 =>
  some (((bif t119_48 then r_49.1.1 else false), ()), ())).map .inr
noncomputable def law19_ExactKeeps (ops_0 : List (Int × Int × (Int × Int × Int × Unit) × Unit)) (key_1 : Int × Int × Int × Unit) (n_2 : Int) : Option ((Bool × Unit) × (Unit)) :=
  let t15_2 : Bool := decide ((ops_0.length : Int) > 600)
  guardR (!t15_2) (some (key_1.1, key_1.2.1, key_1.2.2.1, ())) (0, 0, 0, ()) fun v_3 =>
  guardR (!t15_2) (ref02_May v_3) ((false, ()), ()) fun r_4 =>
  guardR (!t15_2) (some ()) () fun _ =>
  bif (bif t15_2 then true else !r_4.1.1) then
    law19_lives.bind fun r_6 =>
    some ((r_6.1.1, ()), ())
  else
  (exact_New 256).bind fun r_7 =>
  match r_7 with
  | .inl y_8 => some ((false, ()), ())
  | .inr y_9 => (exact_Map_Put_767 y_9.1.1 (key_1.1, key_1.2.1, key_1.2.2.1, ()) n_2).bind fun r_10 =>
    bif (!decide (r_10.1.1 = 0)) then
      some ((false, ()), ())
    else
    loopR (fun (z : ((List (Int × Int × (Int × Int × Int × Unit) × Unit)) × Int × Int × Unit) × (((List (Bool × ((Int × Int × Int × Unit) × Int × Unit) × Unit)) × Int × Int × Unit) × (Int × Int × Int × Unit) × Unit)) => law19_ExactKeeps_s0 z.1.1 z.1.2.1 z.1.2.2.1 z.2.1 z.2.2.1) ((ops_0, n_2, 0, ()), r_10.2.1, (key_1.1, key_1.2.1, key_1.2.2.1, ()), ())

noncomputable def sg3 : Sig := ⟨[.val (.slice (.agg (.pair (.int .i64) (.pair (.int .i64) (.pair (.agg (.pair (.int .i64) (.pair (.int .u64) (.pair (.int .u64) .unit)))) .unit))))), .val (.agg (.pair (.int .i64) (.pair (.int .u64) (.pair (.int .u64) .unit)))), .val (.int .i64)], [.val .bool], []⟩
noncomputable def sm3 : CSem := mkSem sg3 fun x => law19_ExactKeeps x.1 x.2.1 x.2.2.1
noncomputable def cf3 : Cfg := cf [(7, sem7), (8, sem8), (9, sem9), (10, sem10), (13, sem13), (11, sem11), (12, sem12)] 123 0 [(0, ⟨[(0, .dat (.slice (.agg (.pair (.int .i64) (.pair (.int .i64) (.pair (.agg (.pair (.int .i64) (.pair (.int .u64) (.pair (.int .u64) .unit)))) .unit)))))), (2, .dat (.int .i64)), (4, .loc (nameOf 4 0) []), (7, .loc (nameOf 22 0) []), (8, .dat (.int .i64))], [((nameOf 22 0), (.agg (.pair (.own (.agg (.pair .bool (.pair (.agg (.pair (.agg (.pair (.int .i64) (.pair (.int .u64) (.pair (.int .u64) .unit)))) (.pair (.int .i64) .unit))) .unit)))) (.pair (.int .i64) (.pair (.int .i64) .unit))))), ((nameOf 4 0), (.agg (.pair (.int .i64) (.pair (.int .u64) (.pair (.int .u64) .unit)))))]⟩)]

noncomputable def sem3 : CSem := sm3

noncomputable def sg18 : Sig := ⟨[.val (.slice (.agg (.pair (.agg (.pair (.int .i64) (.pair (.int .u64) (.pair (.int .u64) .unit)))) (.pair (.int .i64) .unit)))), .val (.agg (.pair (.int .i64) (.pair (.int .u64) (.pair (.int .u64) .unit))))], [.val (.int .i64)], []⟩
noncomputable def sm18 : CSem := mkSem sg18 fun x => ref19_Find x.1 x.2.1
noncomputable def cf18 : Cfg := cf [] 20 0 [(0, ⟨[(0, .dat (.slice (.agg (.pair (.agg (.pair (.int .i64) (.pair (.int .u64) (.pair (.int .u64) .unit)))) (.pair (.int .i64) .unit))))), (3, .loc (nameOf 3 0) []), (5, .dat (.int .i64))], [((nameOf 3 0), (.agg (.pair (.int .i64) (.pair (.int .u64) (.pair (.int .u64) .unit)))))]⟩)]

noncomputable def sem18 : CSem := sm18

noncomputable def sg26 : Sig := ⟨[.val (.slice (.agg (.pair (.agg (.pair (.int .i64) (.pair (.int .u64) (.pair (.int .u64) .unit)))) (.pair (.int .i64) .unit)))), .val (.int .i64), .val (.agg (.pair (.int .i64) (.pair (.int .u64) (.pair (.int .u64) .unit)))), .val (.int .i64)], [.val (.slice (.agg (.pair (.agg (.pair (.int .i64) (.pair (.int .u64) (.pair (.int .u64) .unit)))) (.pair (.int .i64) .unit)))), .val (.int .i64)], []⟩
noncomputable def sm26 : CSem := mkSem sg26 fun x => ref19_Put x.1 x.2.1 x.2.2.1 x.2.2.2.1
noncomputable def cf26 : Cfg := cf [(7, sem7), (18, sem18)] 34 0 []

noncomputable def sem26 : CSem := sm26

noncomputable def sg27 : Sig := ⟨[.val (.slice (.agg (.pair (.agg (.pair (.int .i64) (.pair (.int .u64) (.pair (.int .u64) .unit)))) (.pair (.int .i64) .unit)))), .val (.agg (.pair (.int .i64) (.pair (.int .u64) (.pair (.int .u64) .unit)))), .val (.int .i64)], [.val (.slice (.agg (.pair (.agg (.pair (.int .i64) (.pair (.int .u64) (.pair (.int .u64) .unit)))) (.pair (.int .i64) .unit)))), .val (.int .i64)], []⟩
noncomputable def sm27 : CSem := mkSem sg27 fun x => ref19_Set x.1 x.2.1 x.2.2.1
noncomputable def cf27 : Cfg := cf [(7, sem7), (18, sem18)] 29 0 []

noncomputable def sem27 : CSem := sm27

noncomputable def sg28 : Sig := ⟨[.val (.slice (.agg (.pair (.agg (.pair (.int .i64) (.pair (.int .u64) (.pair (.int .u64) .unit)))) (.pair (.int .i64) .unit)))), .val (.agg (.pair (.int .i64) (.pair (.int .u64) (.pair (.int .u64) .unit))))], [.val (.slice (.agg (.pair (.agg (.pair (.int .i64) (.pair (.int .u64) (.pair (.int .u64) .unit)))) (.pair (.int .i64) .unit)))), .val (.int .i64)], []⟩
noncomputable def sm28 : CSem := mkSem sg28 fun x => ref19_Drop x.1 x.2.1
noncomputable def cf28 : Cfg := cf [(7, sem7), (18, sem18)] 29 0 []

noncomputable def sem28 : CSem := sm28

/-! ### shunter/shunterlaw19.step -/
noncomputable def law19_step_fa9 (m_0 : (List (Bool × ((Int × Int × Int × Unit) × Int × Unit) × Unit)) × Int × Int × Unit) (l_1 : List ((Int × Int × Int × Unit) × Int × Unit)) (most_2 : Int) (o_3 : Int × Int × (Int × Int × Int × Unit) × Unit) : Option (((List ((Int × Int × Int × Unit) × Int × Unit)) × Bool × Unit) × (((List (Bool × ((Int × Int × Int × Unit) × Int × Unit) × Unit)) × Int × Int × Unit) × Unit)) :=
  bif (decide (o_3.1 = 0)) then
    (ref19_Put l_1 most_2 (o_3.2.2.1.1, o_3.2.2.1.2.1, o_3.2.2.1.2.2.1, ()) o_3.2.1).bind fun r_2 =>
    (exact_Map_Put_767 (m_0.1, m_0.2.1, m_0.2.2.1, ()) (o_3.2.2.1.1, o_3.2.2.1.2.1, o_3.2.2.1.2.2.1, ()) o_3.2.1).bind fun r_3 =>
    some ((r_2.1.1, (decide (r_3.1.1 = r_2.1.2.1)), ()), r_3.2.1, ())
  else
  bif (decide (o_3.1 = 1)) then
    (ref19_Set l_1 (o_3.2.2.1.1, o_3.2.2.1.2.1, o_3.2.2.1.2.2.1, ()) o_3.2.1).bind fun r_6 =>
    (exact_Map_Set_767 (m_0.1, m_0.2.1, m_0.2.2.1, ()) (o_3.2.2.1.1, o_3.2.2.1.2.1, o_3.2.2.1.2.2.1, ()) o_3.2.1).bind fun r_7 =>
    some ((r_6.1.1, (decide (r_7.1.1 = r_6.1.2.1)), ()), r_7.2.1, ())
  else
  bif (decide (o_3.1 = 2)) then
    (ref19_Drop l_1 (o_3.2.2.1.1, o_3.2.2.1.2.1, o_3.2.2.1.2.2.1, ())).bind fun r_10 =>
    (exact_Map_Drop_ca4 (m_0.1, m_0.2.1, m_0.2.2.1, ()) (o_3.2.2.1.1, o_3.2.2.1.2.1, o_3.2.2.1.2.2.1, ())).bind fun r_11 =>
    some ((r_10.1.1, (decide (r_11.1.1 = r_10.1.2.1)), ()), r_11.2.1, ())
  else
  (exact_Map_Get_ca4 (m_0.1, m_0.2.1, m_0.2.2.1, ()) (o_3.2.2.1.1, o_3.2.2.1.2.1, o_3.2.2.1.2.2.1, ())).bind fun r_13 =>
  (ref02_May (o_3.2.2.1.1, o_3.2.2.1.2.1, o_3.2.2.1.2.2.1, ())).bind fun r_14 =>
  bif r_14.1.1 then
    (ref19_Find l_1 (o_3.2.2.1.1, o_3.2.2.1.2.1, o_3.2.2.1.2.2.1, ())).bind fun r_15 =>
    bif (decide (r_15.1.1 < 0)) then
      let t91_17 : Bool := decide (r_13.1.1 = 0)
      guardR t91_17 (some ()) () fun _ =>
      guardR t91_17 (some ()) () fun _ =>
      some ((l_1, (bif t91_17 then !r_13.1.2.1 else false), ()), r_13.2.1, ())
    else
    (rdI l_1 r_15.1.1).bind fun v_19 =>
    let t103_20 : Bool := decide (r_13.1.1 = v_19.2.1)
    guardR t103_20 (some ()) () fun _ =>
    some ((l_1, (bif t103_20 then r_13.1.2.1 else false), ()), r_13.2.1, ())
  else
  bif (decide (((-1) : Int) < 0)) then
    let t91_23 : Bool := decide (r_13.1.1 = 0)
    guardR t91_23 (some ()) () fun _ =>
    guardR t91_23 (some ()) () fun _ =>
    some ((l_1, (bif t91_23 then !r_13.1.2.1 else false), ()), r_13.2.1, ())
  else
  (rdI l_1 (-1)).bind fun v_25 =>
  let t103_26 : Bool := decide (r_13.1.1 = v_25.2.1)
  guardR t103_26 (some ()) () fun _ =>
  some ((l_1, (bif t103_26 then r_13.1.2.1 else false), ()), r_13.2.1, ())

noncomputable def sg14 : Sig := ⟨[.obj (.agg (.pair (.own (.agg (.pair .bool (.pair (.agg (.pair (.agg (.pair (.int .i64) (.pair (.int .u64) (.pair (.int .u64) .unit)))) (.pair (.int .i64) .unit))) .unit)))) (.pair (.int .i64) (.pair (.int .i64) .unit)))), .val (.slice (.agg (.pair (.agg (.pair (.int .i64) (.pair (.int .u64) (.pair (.int .u64) .unit)))) (.pair (.int .i64) .unit)))), .val (.int .i64), .val (.agg (.pair (.int .i64) (.pair (.int .i64) (.pair (.agg (.pair (.int .i64) (.pair (.int .u64) (.pair (.int .u64) .unit)))) .unit))))], [.val (.slice (.agg (.pair (.agg (.pair (.int .i64) (.pair (.int .u64) (.pair (.int .u64) .unit)))) (.pair (.int .i64) .unit)))), .val .bool], [(.agg (.pair (.own (.agg (.pair .bool (.pair (.agg (.pair (.agg (.pair (.int .i64) (.pair (.int .u64) (.pair (.int .u64) .unit)))) (.pair (.int .i64) .unit))) .unit)))) (.pair (.int .i64) (.pair (.int .i64) .unit))))]⟩
noncomputable def sm14 : CSem := mkSem sg14 fun x => law19_step_fa9 x.1 x.2.1 x.2.2.1 x.2.2.2.1
noncomputable def cf14 : Cfg := cf [(26, sem26), (10, sem10), (27, sem27), (11, sem11), (28, sem28), (12, sem12), (13, sem13), (7, sem7), (18, sem18)] 107 1 []

noncomputable def sem14 : CSem := sm14

noncomputable def sg15 : Sig := ⟨[.obj (.agg (.pair (.own (.agg (.pair .bool (.pair (.agg (.pair (.agg (.pair (.int .i64) (.pair (.int .u64) (.pair (.int .u64) .unit)))) (.pair (.int .i64) .unit))) .unit)))) (.pair (.int .i64) (.pair (.int .i64) .unit))))], [.val (.int .i64)], [(.agg (.pair (.own (.agg (.pair .bool (.pair (.agg (.pair (.agg (.pair (.int .i64) (.pair (.int .u64) (.pair (.int .u64) .unit)))) (.pair (.int .i64) .unit))) .unit)))) (.pair (.int .i64) (.pair (.int .i64) .unit))))]⟩
noncomputable def sm15 : CSem := mkSem sg15 fun x => exact_Map_Len_bb9 x.1
noncomputable def cf15 : Cfg := cf [] 9 1 []

noncomputable def sem15 : CSem := sm15

noncomputable def sg16 : Sig := ⟨[.obj (.agg (.pair (.own (.agg (.pair .bool (.pair (.agg (.pair (.agg (.pair (.int .i64) (.pair (.int .u64) (.pair (.int .u64) .unit)))) (.pair (.int .i64) .unit))) .unit)))) (.pair (.int .i64) (.pair (.int .i64) .unit))))], [.val (.int .i64)], [(.agg (.pair (.own (.agg (.pair .bool (.pair (.agg (.pair (.agg (.pair (.int .i64) (.pair (.int .u64) (.pair (.int .u64) .unit)))) (.pair (.int .i64) .unit))) .unit)))) (.pair (.int .i64) (.pair (.int .i64) .unit))))]⟩
noncomputable def sm16 : CSem := mkSem sg16 fun x => exact_Map_Room_bb9 x.1
noncomputable def cf16 : Cfg := cf [] 14 1 []

noncomputable def sem16 : CSem := sm16

/-! ### shunter/shunterlaw19.ExactPlays -/
noncomputable def law19_ExactPlays_s0 (most_0_0 : Int) (ops_1_0 : List (Int × Int × (Int × Int × Int × Unit) × Unit)) (l_6_0 : List ((Int × Int × Int × Unit) × Int × Unit)) (i_7_0 : Int) (p10_0_0 : (List (Bool × ((Int × Int × Int × Unit) × Int × Unit) × Unit)) × Int × Int × Unit) : Option (((Int × (List (Int × Int × (Int × Int × Int × Unit) × Unit)) × (List ((Int × Int × Int × Unit) × Int × Unit)) × Int × Unit) × (((List (Bool × ((Int × Int × Int × Unit) × Int × Unit) × Unit)) × Int × Int × Unit) × Unit)) ⊕ ((Bool × Unit) × (Unit))) :=
  bif (decide (i_7_0 < (ops_1_0.length : Int))) then
    (rdI ops_1_0 i_7_0).bind fun v_18 =>
    (law19_step_fa9 (p10_0_0.1, p10_0_0.2.1, p10_0_0.2.2.1, ()) l_6_0 most_0_0 v_18).bind fun r_19 =>
    guardR (!(!r_19.1.2.1)) (some ()) () fun _ =>
    guardR (!(!r_19.1.2.1)) (exact_Map_Len_bb9 r_19.2.1) ((0, ()), ([], 0, 0, ()), ()) fun r_20 =>
    guardR (!(!r_19.1.2.1)) (some ()) () fun _ =>
    guardR (!(!r_19.1.2.1)) (some (r_19.1.1.length : Int)) 0 fun v_21 =>
    guardR (!(!r_19.1.2.1)) (some (!decide (r_20.1.1 = v_21))) false fun v_22 =>
    let t59_23 : Bool := bif !r_19.1.2.1 then true else v_22
    guardR (!t59_23) (some ()) () fun _ =>
    guardR (!t59_23) (exact_Map_Room_bb9 (bif !(!r_19.1.2.1) then r_20.2.1 else r_19.2.1)) ((0, ()), ([], 0, 0, ()), ()) fun r_24 =>
    guardR (!t59_23) (some ()) () fun _ =>
    guardR (!t59_23) (some ()) () fun _ =>
    guardR (!t59_23) (some (r_19.1.1.length : Int)) 0 fun v_25 =>
    guardR (!t59_23) (some (IntKind.i64.wrap (most_0_0 - v_25))) 0 fun v_26 =>
    guardR (!t59_23) (some (!decide (r_24.1.1 = v_26))) false fun v_27 =>
    bif (bif t59_23 then true else v_27) then
      some (.inr ((false, ()), ()))
    else
    some (.inl ((most_0_0, ops_1_0, r_19.1.1, (IntKind.i64.wrap (i_7_0 + 1)), ()), bif !t59_23 then r_24.2.1 else bif !(!r_19.1.2.1) then r_20.2.1 else r_19.2.1, ()))
  else
  (law19_lives.bind fun r_30 =>
  some ((r_30.1.1, ()), ())).map .inr
noncomputable def law19_ExactPlays (most_0 : Int) (ops_1 : List (Int × Int × (Int × Int × Int × Unit) × Unit)) : Option ((Bool × Unit) × (Unit)) :=
  (exact_New most_0).bind fun r_1 =>
  match r_1 with
  | .inl y_2 => let t12_3 : Bool := decide (most_0 < 1)
    guardR (!t12_3) (some ()) () fun _ =>
    guardR (!t12_3) (some (decide (most_0 > 256))) false fun v_4 =>
    bif (bif t12_3 then true else v_4) then
      law19_lives.bind fun r_6 =>
      some ((r_6.1.1, ()), ())
    else
    guardR false law19_lives ((false, ()), ()) fun r_7 =>
    some ((false, ()), ())
  | .inr y_8 => let t12_9 : Bool := decide (most_0 < 1)
    guardR (!t12_9) (some ()) () fun _ =>
    guardR (!t12_9) (some (decide (most_0 > 256))) false fun v_10 =>
    bif (bif t12_9 then true else v_10) then
      guardR false law19_lives ((false, ()), ()) fun r_12 =>
      some ((false, ()), ())
    else
    bif (decide ((ops_1.length : Int) > 600)) then
      law19_lives.bind fun r_15 =>
      some ((r_15.1.1, ()), ())
    else
    loopR (fun (z : (Int × (List (Int × Int × (Int × Int × Int × Unit) × Unit)) × (List ((Int × Int × Int × Unit) × Int × Unit)) × Int × Unit) × (((List (Bool × ((Int × Int × Int × Unit) × Int × Unit) × Unit)) × Int × Int × Unit) × Unit)) => law19_ExactPlays_s0 z.1.1 z.1.2.1 z.1.2.2.1 z.1.2.2.2.1 z.2.1) ((most_0, ops_1, [], 0, ()), y_8.1.1, ())

noncomputable def sg4 : Sig := ⟨[.val (.int .i64), .val (.slice (.agg (.pair (.int .i64) (.pair (.int .i64) (.pair (.agg (.pair (.int .i64) (.pair (.int .u64) (.pair (.int .u64) .unit)))) .unit)))))], [.val .bool], []⟩
noncomputable def sm4 : CSem := mkSem sg4 fun x => law19_ExactPlays x.1 x.2.1
noncomputable def cf4 : Cfg := cf [(9, sem9), (8, sem8), (14, sem14), (15, sem15), (16, sem16)] 70 0 [(0, ⟨[(0, .dat (.int .i64)), (1, .dat (.slice (.agg (.pair (.int .i64) (.pair (.int .i64) (.pair (.agg (.pair (.int .i64) (.pair (.int .u64) (.pair (.int .u64) .unit)))) .unit)))))), (5, .loc (nameOf 10 0) []), (6, .dat (.slice (.agg (.pair (.agg (.pair (.int .i64) (.pair (.int .u64) (.pair (.int .u64) .unit)))) (.pair (.int .i64) .unit))))), (7, .dat (.int .i64))], [((nameOf 10 0), (.agg (.pair (.own (.agg (.pair .bool (.pair (.agg (.pair (.agg (.pair (.int .i64) (.pair (.int .u64) (.pair (.int .u64) .unit)))) (.pair (.int .i64) .unit))) .unit)))) (.pair (.int .i64) (.pair (.int .i64) .unit)))))]⟩)]

noncomputable def sem4 : CSem := sm4

end Go.Proofs.Ytnaclmcmicckeaa

namespace Go.Proofs.Ytnaclmcmicckeaa
open Go Go.Pv Go.Proofs Go.L
set_option maxRecDepth 100000

theorem r14 (x : ArgT sg14.args) : runFM cf14 sg14 (bodyOf Try.f14) [8, 9] x = law19_step_fa9 x.1 x.2.1 x.2.2.1 x.2.2.2.1 := by kernel_rfl

theorem r38 (x : ArgT sg38.args) : runFM cf38 sg38 (bodyOf Try.f38) [4] x = exact_Map_home_ca4 x.1 x.2.1 := by kernel_rfl

theorem r34 (x : ArgT ag34) : runFAM cf34 ag34 al34 (bodyOf Try.f34) [(2, some 71)] x = vec_Word x.1 := by kernel_rfl

theorem r28 (x : ArgT sg28.args) : runFM cf28 sg28 (bodyOf Try.f28) [4, 5] x = ref19_Drop x.1 x.2.1 := by kernel_rfl

theorem r4 (x : ArgT sg4.args) : runFM cf4 sg4 (bodyOf Try.f4) [4] x = law19_ExactPlays x.1 x.2.1 := by kernel_rfl

end Go.Proofs.Ytnaclmcmicckeaa

namespace Go.Proofs.Ytnaclmcmicckeaa
open Go Go.Pv Go.Proofs Go.L
set_option maxRecDepth 100000

theorem r26 (x : ArgT sg26.args) : runFM cf26 sg26 (bodyOf Try.f26) [8, 9] x = ref19_Put x.1 x.2.1 x.2.2.1 x.2.2.2.1 := by kernel_rfl

theorem r24 (x : ArgT sg24.args) : runFM cf24 sg24 (bodyOf Try.f24) [4, 5] x = exact_Map_find_ca4 x.1 x.2.1 := by kernel_rfl

theorem r39 (x : ArgT sg39.args) : runFM cf39 sg39 (bodyOf Try.f39) [4] x = exact_Map_next_deb x.1 x.2.1 := by kernel_rfl

theorem r12 (x : ArgT sg12.args) : runFM cf12 sg12 (bodyOf Try.f12) [4] x = exact_Map_Drop_ca4 x.1 x.2.1 := by kernel_rfl

theorem r23 (x : ArgT sg23.args) : runFM cf23 sg23 (bodyOf Try.f23) [4] x = exact_Map_may_ca4 x.1 x.2.1 := by kernel_rfl

theorem r16 (x : ArgT sg16.args) : runFM cf16 sg16 (bodyOf Try.f16) [2] x = exact_Map_Room_bb9 x.1 := by kernel_rfl

theorem r15 (x : ArgT sg15.args) : runFM cf15 sg15 (bodyOf Try.f15) [2] x = exact_Map_Len_bb9 x.1 := by kernel_rfl

theorem r18 (x : ArgT sg18.args) : runFM cf18 sg18 (bodyOf Try.f18) [4] x = ref19_Find x.1 x.2.1 := by kernel_rfl

theorem r58 (x : ArgT sg58.args) : runFM cf58 sg58 (bodyOf Try.f58) [2] x = bits_Len64 x.1 := by kernel_rfl

end Go.Proofs.Ytnaclmcmicckeaa

namespace Go.Proofs.Ytnaclmcmicckeaa
open Go Go.Pv Go.Proofs Go.L
set_option maxRecDepth 100000

theorem r10 (x : ArgT sg10.args) : runFM cf10 sg10 (bodyOf Try.f10) [6] x = exact_Map_Put_767 x.1 x.2.1 x.2.2.1 := by kernel_rfl

theorem r40 (x : ArgT sg40.args) : runFM cf40 sg40 (bodyOf Try.f40) [6] x = exact_between x.1 x.2.1 x.2.2.1 := by kernel_rfl

theorem r13 (x : ArgT sg13.args) : runFM cf13 sg13 (bodyOf Try.f13) [4, 5] x = exact_Map_Get_ca4 x.1 x.2.1 := by kernel_rfl

theorem r3 (x : ArgT sg3.args) : runFM cf3 sg3 (bodyOf Try.f3) [6] x = law19_ExactKeeps x.1 x.2.1 x.2.2.1 := by kernel_rfl

theorem r37 (x : ArgT sg37.args) : runFM cf37 sg37 (bodyOf Try.f37) [2] x = vec_May x.1 := by kernel_rfl

theorem r8 (x : ArgT sg8.args) : runFM cf8 sg8 (bodyOf Try.f8) [0] x = law19_lives := by kernel_rfl

end Go.Proofs.Ytnaclmcmicckeaa

namespace Go.Proofs.Ytnaclmcmicckeaa
open Go Go.Pv Go.Proofs Go.L
set_option maxRecDepth 100000

theorem r11 (x : ArgT sg11.args) : runFM cf11 sg11 (bodyOf Try.f11) [6] x = exact_Map_Set_767 x.1 x.2.1 x.2.2.1 := by kernel_rfl

theorem r22 (x : ArgT ag22) : runFAM cf22 ag22 al22 (bodyOf Try.f22) [(4, some 54)] x = ref01_Of x.1 x.2.1 := by kernel_rfl

theorem r27 (x : ArgT sg27.args) : runFM cf27 sg27 (bodyOf Try.f27) [6, 7] x = ref19_Set x.1 x.2.1 x.2.2.1 := by kernel_rfl

theorem r25 (x : ArgT sg25.args) : runFM cf25 sg25 (bodyOf Try.f25) [] x = exact_Map_close_deb x.1 x.2.1 := by kernel_rfl

theorem r9 (x : ArgT ag9) : runFAM cf9 ag9 al9 (bodyOf Try.f9) [(2, none)] x = exact_New x.1 := by kernel_rfl

theorem r21 (x : ArgT sg21.args) : runFM cf21 sg21 (bodyOf Try.f21) [2] x = ref01_Len x.1 := by kernel_rfl

theorem r47 (x : ArgT sg47.args) : runFM cf47 sg47 (bodyOf Try.f47) [2] x = vec_width x.1 := by kernel_rfl

theorem r48 (x : ArgT sg48.args) : runFM cf48 sg48 (bodyOf Try.f48) [2] x = word_Len x.1 := by kernel_rfl

theorem r7 (x : ArgT sg7.args) : runFM cf7 sg7 (bodyOf Try.f7) [2] x = ref02_May x.1 := by kernel_rfl

end Go.Proofs.Ytnaclmcmicckeaa

namespace Go.Proofs.Ytnaclmcmicckeaa
open Go Go.Pv Go.Proofs Go.L
set_option maxRecDepth 100000

theorem c22 : Contract Try.prog 22 sm22 :=
  contract_ofAM (C := cf22) (fun f sem h => (Tab.nil : Tab _) _ (lk_mem' h)) (args := ag22) (alts := al22) (fn := Try.f22) (c := bodyOf Try.f22) (ts := [(4, some 54)]) Try.func22 (by kernel_rfl) (by kernel_rfl) (by kernel_rfl) (by kernel_rfl) (by kernel_rfl) (by kernel_rfl) (by kernel_rfl) r22

theorem k22 : Contract Try.prog 22 sem22 := c22

theorem c21 : Contract Try.prog 21 sm21 :=
  contract_ofM (C := cf21) (fun f sem h => (Tab.nil : Tab _) _ (lk_mem' h)) (S := sg21) (fn := Try.f21) (c := bodyOf Try.f21) (ts := [2]) Try.func21 (by kernel_rfl) (by kernel_rfl) (by kernel_rfl) (by kernel_rfl) (by kernel_rfl) (by kernel_rfl) (by kernel_rfl) r21

theorem k21 : Contract Try.prog 21 sem21 := c21

theorem c7 : Contract Try.prog 7 sm7 :=
  contract_ofM (C := cf7) (fun f sem h => (Tab.cons k22 (Tab.cons k21 Tab.nil) : Tab _) _ (lk_mem' h)) (S := sg7) (fn := Try.f7) (c := bodyOf Try.f7) (ts := [2]) Try.func7 (by kernel_rfl) (by kernel_rfl) (by kernel_rfl) (by kernel_rfl) (by kernel_rfl) (by kernel_rfl) (by kernel_rfl) r7

theorem k7 : Contract Try.prog 7 sem7 := c7

theorem c9 : Contract Try.prog 9 sm9 :=
  contract_ofAM (C := cf9) (fun f sem h => (Tab.nil : Tab _) _ (lk_mem' h)) (args := ag9) (alts := al9) (fn := Try.f9) (c := bodyOf Try.f9) (ts := [(2, none)]) Try.func9 (by kernel_rfl) (by kernel_rfl) (by kernel_rfl) (by kernel_rfl) (by kernel_rfl) (by kernel_rfl) (by kernel_rfl) r9

theorem k9 : Contract Try.prog 9 sem9 := c9

theorem c47 : Contract Try.prog 47 sm47 :=
  contract_ofM (C := cf47) (fun f sem h => (Tab.nil : Tab _) _ (lk_mem' h)) (S := sg47) (fn := Try.f47) (c := bodyOf Try.f47) (ts := [2]) Try.func47 (by kernel_rfl) (by kernel_rfl) (by kernel_rfl) (by kernel_rfl) (by kernel_rfl) (by kernel_rfl) (by kernel_rfl) r47

theorem k47 : Contract Try.prog 47 sem47 := c47

theorem c34 : Contract Try.prog 34 sm34 :=
  contract_ofAM (C := cf34) (fun f sem h => (Tab.nil : Tab _) _ (lk_mem' h)) (args := ag34) (alts := al34) (fn := Try.f34) (c := bodyOf Try.f34) (ts := [(2, some 71)]) Try.func34 (by kernel_rfl) (by kernel_rfl) (by kernel_rfl) (by kernel_rfl) (by kernel_rfl) (by kernel_rfl) (by kernel_rfl) r34

theorem k34 : Contract Try.prog 34 sem34 := c34

theorem c58 : Contract Try.prog 58 sm58 :=
  contract_ofM (C := cf58) (fun f sem h => (Tab.nil : Tab _) _ (lk_mem' h)) (S := sg58) (fn := Try.f58) (c := bodyOf Try.f58) (ts := [2]) Try.func58 (by kernel_rfl) (by kernel_rfl) (by kernel_rfl) (by kernel_rfl) (by kernel_rfl) (by kernel_rfl) (by kernel_rfl) r58

theorem k58 : Contract Try.prog 58 sem58 := c58

theorem c48 : Contract Try.prog 48 sm48 :=
  contract_ofM (C := cf48) (fun f sem h => (Tab.cons k58 Tab.nil : Tab _) _ (lk_mem' h)) (S := sg48) (fn := Try.f48) (c := bodyOf Try.f48) (ts := [2]) Try.func48 (by kernel_rfl) (by kernel_rfl) (by kernel_rfl) (by kernel_rfl) (by kernel_rfl) (by kernel_rfl) (by kernel_rfl) r48

theorem k48 : Contract Try.prog 48 sem48 := c48

theorem c37 : Contract Try.prog 37 sm37 :=
  contract_ofM (C := cf37) (fun f sem h => (Tab.cons k47 (Tab.cons k34 (Tab.cons k48 Tab.nil)) : Tab _) _ (lk_mem' h)) (S := sg37) (fn := Try.f37) (c := bodyOf Try.f37) (ts := [2]) Try.func37 (by kernel_rfl) (by kernel_rfl) (by kernel_rfl) (by kernel_rfl) (by kernel_rfl) (by kernel_rfl) (by kernel_rfl) r37

theorem k37 : Contract Try.prog 37 sem37 := c37

theorem c23 : Contract Try.prog 23 sm23 :=
  contract_ofM (C := cf23) (fun f sem h => (Tab.cons k37 Tab.nil : Tab _) _ (lk_mem' h)) (S := sg23) (fn := Try.f23) (c := bodyOf Try.f23) (ts := [4]) Try.func23 (by kernel_rfl) (by kernel_rfl) (by kernel_rfl) (by kernel_rfl) (by kernel_rfl) (by kernel_rfl) (by kernel_rfl) r23

theorem k23 : Contract Try.prog 23 sem23 := c23

theorem c38 : Contract Try.prog 38 sm38 :=
  contract_ofM (C := cf38) (fun f sem h => (Tab.nil : Tab _) _ (lk_mem' h)) (S := sg38) (fn := Try.f38) (c := bodyOf Try.f38) (ts := [4]) Try.func38 (by kernel_rfl) (by kernel_rfl) (by kernel_rfl) (by kernel_rfl) (by kernel_rfl) (by kernel_rfl) (by kernel_rfl) r38

theorem k38 : Contract Try.prog 38 sem38 := c38

theorem c39 : Contract Try.prog 39 sm39 :=
  contract_ofM (C := cf39) (fun f sem h => (Tab.nil : Tab _) _ (lk_mem' h)) (S := sg39) (fn := Try.f39) (c := bodyOf Try.f39) (ts := [4]) Try.func39 (by kernel_rfl) (by kernel_rfl) (by kernel_rfl) (by kernel_rfl) (by kernel_rfl) (by kernel_rfl) (by kernel_rfl) r39

theorem k39 : Contract Try.prog 39 sem39 := c39

theorem c24 : Contract Try.prog 24 sm24 :=
  contract_ofM (C := cf24) (fun f sem h => (Tab.cons k38 (Tab.cons k39 Tab.nil) : Tab _) _ (lk_mem' h)) (S := sg24) (fn := Try.f24) (c := bodyOf Try.f24) (ts := [4, 5]) Try.func24 (by kernel_rfl) (by kernel_rfl) (by kernel_rfl) (by kernel_rfl) (by kernel_rfl) (by kernel_rfl) (by kernel_rfl) r24

theorem k24 : Contract Try.prog 24 sem24 := c24

theorem c10 : Contract Try.prog 10 sm10 :=
  contract_ofM (C := cf10) (fun f sem h => (Tab.cons k23 (Tab.cons k24 Tab.nil) : Tab _) _ (lk_mem' h)) (S := sg10) (fn := Try.f10) (c := bodyOf Try.f10) (ts := [6]) Try.func10 (by kernel_rfl) (by kernel_rfl) (by kernel_rfl) (by kernel_rfl) (by kernel_rfl) (by kernel_rfl) (by kernel_rfl) r10

theorem k10 : Contract Try.prog 10 sem10 := c10

theorem c13 : Contract Try.prog 13 sm13 :=
  contract_ofM (C := cf13) (fun f sem h => (Tab.cons k23 (Tab.cons k24 Tab.nil) : Tab _) _ (lk_mem' h)) (S := sg13) (fn := Try.f13) (c := bodyOf Try.f13) (ts := [4, 5]) Try.func13 (by kernel_rfl) (by kernel_rfl) (by kernel_rfl) (by kernel_rfl) (by kernel_rfl) (by kernel_rfl) (by kernel_rfl) r13

theorem k13 : Contract Try.prog 13 sem13 := c13

theorem c8 : Contract Try.prog 8 sm8 :=
  contract_ofM (C := cf8) (fun f sem h => (Tab.cons k9 (Tab.cons k10 (Tab.cons k13 Tab.nil)) : Tab _) _ (lk_mem' h)) (S := sg8) (fn := Try.f8) (c := bodyOf Try.f8) (ts := [0]) Try.func8 (by kernel_rfl) (by kernel_rfl) (by kernel_rfl) (by kernel_rfl) (by kernel_rfl) (by kernel_rfl) (by kernel_rfl) r8

theorem k8 : Contract Try.prog 8 sem8 := c8

theorem c11 : Contract Try.prog 11 sm11 :=
  contract_ofM (C := cf11) (fun f sem h => (Tab.cons k23 (Tab.cons k24 Tab.nil) : Tab _) _ (lk_mem' h)) (S := sg11) (fn := Try.f11) (c := bodyOf Try.f11) (ts := [6]) Try.func11 (by kernel_rfl) (by kernel_rfl) (by kernel_rfl) (by kernel_rfl) (by kernel_rfl) (by kernel_rfl) (by kernel_rfl) r11

theorem k11 : Contract Try.prog 11 sem11 := c11

theorem c40 : Contract Try.prog 40 sm40 :=
  contract_ofM (C := cf40) (fun f sem h => (Tab.nil : Tab _) _ (lk_mem' h)) (S := sg40) (fn := Try.f40) (c := bodyOf Try.f40) (ts := [6]) Try.func40 (by kernel_rfl) (by kernel_rfl) (by kernel_rfl) (by kernel_rfl) (by kernel_rfl) (by kernel_rfl) (by kernel_rfl) r40

theorem k40 : Contract Try.prog 40 sem40 := c40

theorem c25 : Contract Try.prog 25 sm25 :=
  contract_ofM (C := cf25) (fun f sem h => (Tab.cons k39 (Tab.cons k38 (Tab.cons k40 Tab.nil)) : Tab _) _ (lk_mem' h)) (S := sg25) (fn := Try.f25) (c := bodyOf Try.f25) (ts := []) Try.func25 (by kernel_rfl) (by kernel_rfl) (by kernel_rfl) (by kernel_rfl) (by kernel_rfl) (by kernel_rfl) (by kernel_rfl) r25

theorem k25 : Contract Try.prog 25 sem25 := c25

theorem c12 : Contract Try.prog 12 sm12 :=
  contract_ofM (C := cf12) (fun f sem h => (Tab.cons k23 (Tab.cons k24 (Tab.cons k25 Tab.nil)) : Tab _) _ (lk_mem' h)) (S := sg12) (fn := Try.f12) (c := bodyOf Try.f12) (ts := [4]) Try.func12 (by kernel_rfl) (by kernel_rfl) (by kernel_rfl) (by kernel_rfl) (by kernel_rfl) (by kernel_rfl) (by kernel_rfl) r12

theorem k12 : Contract Try.prog 12 sem12 := c12

theorem c3 : Contract Try.prog 3 sm3 :=
  contract_ofM (C := cf3) (fun f sem h => (Tab.cons k7 (Tab.cons k8 (Tab.cons k9 (Tab.cons k10 (Tab.cons k13 (Tab.cons k11 (Tab.cons k12 Tab.nil)))))) : Tab _) _ (lk_mem' h)) (S := sg3) (fn := Try.f3) (c := bodyOf Try.f3) (ts := [6]) Try.func3 (by kernel_rfl) (by kernel_rfl) (by kernel_rfl) (by kernel_rfl) (by kernel_rfl) (by kernel_rfl) (by kernel_rfl) r3

theorem k3 : Contract Try.prog 3 sem3 := c3

theorem c18 : Contract Try.prog 18 sm18 :=
  contract_ofM (C := cf18) (fun f sem h => (Tab.nil : Tab _) _ (lk_mem' h)) (S := sg18) (fn := Try.f18) (c := bodyOf Try.f18) (ts := [4]) Try.func18 (by kernel_rfl) (by kernel_rfl) (by kernel_rfl) (by kernel_rfl) (by kernel_rfl) (by kernel_rfl) (by kernel_rfl) r18

theorem k18 : Contract Try.prog 18 sem18 := c18

theorem c26 : Contract Try.prog 26 sm26 :=
  contract_ofM (C := cf26) (fun f sem h => (Tab.cons k7 (Tab.cons k18 Tab.nil) : Tab _) _ (lk_mem' h)) (S := sg26) (fn := Try.f26) (c := bodyOf Try.f26) (ts := [8, 9]) Try.func26 (by kernel_rfl) (by kernel_rfl) (by kernel_rfl) (by kernel_rfl) (by kernel_rfl) (by kernel_rfl) (by kernel_rfl) r26

theorem k26 : Contract Try.prog 26 sem26 := c26

theorem c27 : Contract Try.prog 27 sm27 :=
  contract_ofM (C := cf27) (fun f sem h => (Tab.cons k7 (Tab.cons k18 Tab.nil) : Tab _) _ (lk_mem' h)) (S := sg27) (fn := Try.f27) (c := bodyOf Try.f27) (ts := [6, 7]) Try.func27 (by kernel_rfl) (by kernel_rfl) (by kernel_rfl) (by kernel_rfl) (by kernel_rfl) (by kernel_rfl) (by kernel_rfl) r27

theorem k27 : Contract Try.prog 27 sem27 := c27

theorem c28 : Contract Try.prog 28 sm28 :=
  contract_ofM (C := cf28) (fun f sem h => (Tab.cons k7 (Tab.cons k18 Tab.nil) : Tab _) _ (lk_mem' h)) (S := sg28) (fn := Try.f28) (c := bodyOf Try.f28) (ts := [4, 5]) Try.func28 (by kernel_rfl) (by kernel_rfl) (by kernel_rfl) (by kernel_rfl) (by kernel_rfl) (by kernel_rfl) (by kernel_rfl) r28

theorem k28 : Contract Try.prog 28 sem28 := c28

theorem c14 : Contract Try.prog 14 sm14 :=
  contract_ofM (C := cf14) (fun f sem h => (Tab.cons k26 (Tab.cons k10 (Tab.cons k27 (Tab.cons k11 (Tab.cons k28 (Tab.cons k12 (Tab.cons k13 (Tab.cons k7 (Tab.cons k18 Tab.nil)))))))) : Tab _) _ (lk_mem' h)) (S := sg14) (fn := Try.f14) (c := bodyOf Try.f14) (ts := [8, 9]) Try.func14 (by kernel_rfl) (by kernel_rfl) (by kernel_rfl) (by kernel_rfl) (by kernel_rfl) (by kernel_rfl) (by kernel_rfl) r14

theorem k14 : Contract Try.prog 14 sem14 := c14

theorem c15 : Contract Try.prog 15 sm15 :=
  contract_ofM (C := cf15) (fun f sem h => (Tab.nil : Tab _) _ (lk_mem' h)) (S := sg15) (fn := Try.f15) (c := bodyOf Try.f15) (ts := [2]) Try.func15 (by kernel_rfl) (by kernel_rfl) (by kernel_rfl) (by kernel_rfl) (by kernel_rfl) (by kernel_rfl) (by kernel_rfl) r15

theorem k15 : Contract Try.prog 15 sem15 := c15

theorem c16 : Contract Try.prog 16 sm16 :=
  contract_ofM (C := cf16) (fun f sem h => (Tab.nil : Tab _) _ (lk_mem' h)) (S := sg16) (fn := Try.f16) (c := bodyOf Try.f16) (ts := [2]) Try.func16 (by kernel_rfl) (by kernel_rfl) (by kernel_rfl) (by kernel_rfl) (by kernel_rfl) (by kernel_rfl) (by kernel_rfl) r16

theorem k16 : Contract Try.prog 16 sem16 := c16

theorem c4 : Contract Try.prog 4 sm4 :=
  contract_ofM (C := cf4) (fun f sem h => (Tab.cons k9 (Tab.cons k8 (Tab.cons k14 (Tab.cons k15 (Tab.cons k16 Tab.nil)))) : Tab _) _ (lk_mem' h)) (S := sg4) (fn := Try.f4) (c := bodyOf Try.f4) (ts := [4]) Try.func4 (by kernel_rfl) (by kernel_rfl) (by kernel_rfl) (by kernel_rfl) (by kernel_rfl) (by kernel_rfl) (by kernel_rfl) r4

theorem k4 : Contract Try.prog 4 sem4 := c4

end Go.Proofs.Ytnaclmcmicckeaa
