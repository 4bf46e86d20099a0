/- The functions of this seat, and the laws as plain Lean. -/
import Derived.Test.YtplljenbabhjbaaProg
import Derived.Test.YtplljenbabhjbaaQ7

set_option linter.unusedSimpArgs false
set_option linter.unusedVariables false

namespace Go.Proofs.Ytplljenbabhjbaa
open Go Go.Pv Go.Proofs Go.L
set_option maxRecDepth 100000

noncomputable def bodyOf (f : Func) : Code := match f.body with | some c => c | none => .skip
noncomputable def cf (tab : List (Nat × CSem)) (nt nob : Nat) (ann : List (Nat × Shape)) : Cfg := ⟨Try.prog, fun f => lk f tab, nt, nob, fun n => lk n ann⟩
def Tab (tab : List (Nat × CSem)) : Prop := ∀ q ∈ tab, Contract Try.prog q.1 q.2
theorem Tab.nil : Tab [] := fun q h => by cases h
theorem Tab.cons {f : Nat} {sem : CSem} {l : List (Nat × CSem)} (h : Contract Try.prog f sem) (t : Tab l) : Tab ((f, sem) :: l) := fun q hq => by
  rcases List.mem_cons.1 hq with rfl | hq
  · exact h
  · exact t q hq

/-! ### shunter/shunterlaw25.light -/
noncomputable def law25_light_s0 (l_0_0 : List (Int × Int × ((List (Int × Int × Int × Unit)) × (List (Int × Int × Int × Unit)) × Int × Int × (Int × (List (Int × Int × Int × Unit)) × Unit) × Unit) × Int × (List Int) × Unit)) (i_3_0 : Int) : Option ((((List (Int × Int × ((List (Int × Int × Int × Unit)) × (List (Int × Int × Int × Unit)) × Int × Int × (Int × (List (Int × Int × Int × Unit)) × Unit) × Unit) × Int × (List Int) × Unit)) × Int × Unit) × (Unit)) ⊕ ((Bool × Unit) × (Unit))) :=
  bif (decide (i_3_0 < (l_0_0.length : Int))) then
    (rdI l_0_0 i_3_0).bind fun v_5 =>
    let t19_7 : Bool := decide ((v_5.2.2.2.2.1.length : Int) > 300)
    guardR (!t19_7) (some ()) () fun _ =>
    guardR (!t19_7) (some ()) () fun _ =>
    guardR (!t19_7) (rdI l_0_0 i_3_0) (0, 0, ([], [], 0, 0, (0, [], ()), ()), 0, [], ()) fun v_8 =>
    guardR (!t19_7) (some v_8.2.2.1) ([], [], 0, 0, (0, [], ()), ()) fun v_9 =>
    guardR (!t19_7) (some v_9.1) [] fun v_10 =>
    guardR (!t19_7) (some ()) () fun _ =>
    guardR (!t19_7) (some (v_10.length : Int)) 0 fun v_11 =>
    guardR (!t19_7) (some (decide (v_11 > 50))) false fun v_12 =>
    let t29_13 : Bool := bif t19_7 then true else v_12
    guardR (!t29_13) (some ()) () fun _ =>
    guardR (!t29_13) (some ()) () fun _ =>
    guardR (!t29_13) (rdI l_0_0 i_3_0) (0, 0, ([], [], 0, 0, (0, [], ()), ()), 0, [], ()) fun v_14 =>
    guardR (!t29_13) (some v_14.2.2.1) ([], [], 0, 0, (0, [], ()), ()) fun v_15 =>
    guardR (!t29_13) (some v_15.2.1) [] fun v_16 =>
    guardR (!t29_13) (some ()) () fun _ =>
    guardR (!t29_13) (some (v_16.length : Int)) 0 fun v_17 =>
    guardR (!t29_13) (some (decide (v_17 > 50))) false fun v_18 =>
    let t39_19 : Bool := bif t29_13 then true else v_18
    guardR (!t39_19) (some ()) () fun _ =>
    guardR (!t39_19) (some ()) () fun _ =>
    guardR (!t39_19) (rdI l_0_0 i_3_0) (0, 0, ([], [], 0, 0, (0, [], ()), ()), 0, [], ()) fun v_20 =>
    guardR (!t39_19) (some v_20.2.2.1) ([], [], 0, 0, (0, [], ()), ()) fun v_21 =>
    guardR (!t39_19) (some v_21.2.2.2.2.1) (0, [], ()) fun v_22 =>
    guardR (!t39_19) (some v_22.2.1) [] fun v_23 =>
    guardR (!t39_19) (some ()) () fun _ =>
    guardR (!t39_19) (some (v_23.length : Int)) 0 fun v_24 =>
    guardR (!t39_19) (some (decide (v_24 > 50))) false fun v_25 =>
    bif (bif t39_19 then true else v_25) then
      some (.inr ((false, ()), ()))
    else
    some (.inl ((l_0_0, (IntKind.i64.wrap (i_3_0 + 1)), ()), ()))
  else
  some (.inr ((true, ()), ()))
noncomputable def law25_light (l_0 : List (Int × Int × ((List (Int × Int × Int × Unit)) × (List (Int × Int × Int × Unit)) × Int × Int × (Int × (List (Int × Int × Int × Unit)) × Unit) × Unit) × Int × (List Int) × Unit)) : Option ((Bool × Unit) × (Unit)) :=
  bif (decide ((l_0.length : Int) > 100)) then
    some ((false, ()), ())
  else
  loopR (fun (z : ((List (Int × Int × ((List (Int × Int × Int × Unit)) × (List (Int × Int × Int × Unit)) × Int × Int × (Int × (List (Int × Int × Int × Unit)) × Unit) × Unit) × Int × (List Int) × Unit)) × Int × Unit) × (Unit)) => law25_light_s0 z.1.1 z.1.2.1) ((l_0, 0, ()), ())

noncomputable def sg8 : Sig := ⟨[.val (.slice (.agg (.pair (.int .i64) (.pair (.int .i64) (.pair (.agg (.pair (.slice (.agg (.pair (.int .i64) (.pair (.int .u64) (.pair (.int .u64) .unit))))) (.pair (.slice (.agg (.pair (.int .i64) (.pair (.int .u64) (.pair (.int .u64) .unit))))) (.pair (.int .i64) (.pair (.int .i64) (.pair (.agg (.pair (.int .i64) (.pair (.slice (.agg (.pair (.int .i64) (.pair (.int .u64) (.pair (.int .u64) .unit))))) .unit))) .unit)))))) (.pair (.int .i64) (.pair (.slice (.int .i64)) .unit)))))))], [.val .bool], []⟩
noncomputable def sm8 : CSem := mkSem sg8 fun x => law25_light x.1
noncomputable def cf8 : Cfg := cf [] 51 0 [(0, ⟨[(0, .dat (.slice (.agg (.pair (.int .i64) (.pair (.int .i64) (.pair (.agg (.pair (.slice (.agg (.pair (.int .i64) (.pair (.int .u64) (.pair (.int .u64) .unit))))) (.pair (.slice (.agg (.pair (.int .i64) (.pair (.int .u64) (.pair (.int .u64) .unit))))) (.pair (.int .i64) (.pair (.int .i64) (.pair (.agg (.pair (.int .i64) (.pair (.slice (.agg (.pair (.int .i64) (.pair (.int .u64) (.pair (.int .u64) .unit))))) .unit))) .unit)))))) (.pair (.int .i64) (.pair (.slice (.int .i64)) .unit)))))))), (3, .dat (.int .i64))], []⟩)]

noncomputable def sem8 : CSem := sm8

noncomputable def sg23 : Sig := ⟨[.val (.int .i64), .val (.int .i64), .val (.int .i64)], [.val .bool], []⟩
noncomputable def sm23 : CSem := mkSem sg23 fun x => batch_within x.1 x.2.1 x.2.2.1
noncomputable def cf23 : Cfg := cf [] 15 0 []

noncomputable def sem23 : CSem := sm23

noncomputable def sg25 : Sig := ⟨[.val (.agg (.pair (.nils (.agg (.pair (.int .i64) (.pair (.int .u64) (.pair (.int .u64) .unit))))) (.pair (.nils (.agg (.pair (.int .i64) (.pair (.int .u64) (.pair (.int .u64) .unit))))) (.pair (.int .i64) (.pair (.int .i64) (.pair (.agg (.pair (.int .i64) (.pair (.nils (.agg (.pair (.int .i64) (.pair (.int .u64) (.pair (.int .u64) .unit))))) .unit))) .unit))))))], [.val .bool], []⟩
noncomputable def sm25 : CSem := mkSem sg25 fun x => batch_blank_ea6 x.1
noncomputable def cf25 : Cfg := cf [] 23 0 []

noncomputable def sg25a : Sig := ⟨[.val (.agg (.pair (.slice (.agg (.pair (.int .i64) (.pair (.int .u64) (.pair (.int .u64) .unit))))) (.pair (.slice (.agg (.pair (.int .i64) (.pair (.int .u64) (.pair (.int .u64) .unit))))) (.pair (.int .i64) (.pair (.int .i64) (.pair (.agg (.pair (.int .i64) (.pair (.slice (.agg (.pair (.int .i64) (.pair (.int .u64) (.pair (.int .u64) .unit))))) .unit))) .unit))))))], [.val .bool], []⟩
noncomputable def sm25a : CSem := mkSem sg25a fun x => batch_blank x.1
noncomputable def cf25a : Cfg := cf [] 23 0 []

noncomputable def sem25 : CSem := orSem sm25 (sm25a)

noncomputable def sg49 : Sig := ⟨[.val (.int .i64)], [.val .bool], []⟩
noncomputable def sm49 : CSem := mkSem sg49 fun x => batch_group_1 x.1
noncomputable def cf49 : Cfg := cf [(23, sem23)] 6 0 []

noncomputable def sem49 : CSem := sm49

noncomputable def sg71 : Sig := ⟨[.val (.slice (.int .i64)), .fnc 49], [.val (.int .i64)], []⟩
noncomputable def sm71 : CSem := mkSem sg71 fun x => slices_IndexFunc_int_int_6be x.1
noncomputable def cf71 : Cfg := cf [(49, sem49)] 19 0 [(0, ⟨[(0, .dat (.slice (.int .i64))), (1, .fn 49 []), (7, .dat (.int .i64)), (8, .dat (.int .i64))], []⟩)]

noncomputable def sem71 : CSem := sm71

noncomputable def sg50 : Sig := ⟨[.val (.slice (.int .i64)), .fnc 49], [.val .bool], []⟩
noncomputable def sm50 : CSem := mkSem sg50 fun x => slices_ContainsFunc_int_int_6be x.1
noncomputable def cf50 : Cfg := cf [(71, sem71)] 9 0 []

noncomputable def sem50 : CSem := sm50

noncomputable def sg24 : Sig := ⟨[.val (.agg (.pair (.int .i64) (.pair (.int .i64) (.pair (.agg (.pair (.nils (.agg (.pair (.int .i64) (.pair (.int .u64) (.pair (.int .u64) .unit))))) (.pair (.nils (.agg (.pair (.int .i64) (.pair (.int .u64) (.pair (.int .u64) .unit))))) (.pair (.int .i64) (.pair (.int .i64) (.pair (.agg (.pair (.int .i64) (.pair (.nils (.agg (.pair (.int .i64) (.pair (.int .u64) (.pair (.int .u64) .unit))))) .unit))) .unit)))))) (.pair (.int .i64) (.pair (.nils (.int .i64)) .unit))))))], [.val .bool], []⟩
noncomputable def sm24 : CSem := mkSem sg24 fun x => batch_group_cc5 x.1
noncomputable def cf24 : Cfg := cf [(25, sem25), (23, sem23), (50, sem50)] 45 0 []

noncomputable def sg24a : Sig := ⟨[.val (.agg (.pair (.int .i64) (.pair (.int .i64) (.pair (.agg (.pair (.slice (.agg (.pair (.int .i64) (.pair (.int .u64) (.pair (.int .u64) .unit))))) (.pair (.slice (.agg (.pair (.int .i64) (.pair (.int .u64) (.pair (.int .u64) .unit))))) (.pair (.int .i64) (.pair (.int .i64) (.pair (.agg (.pair (.int .i64) (.pair (.slice (.agg (.pair (.int .i64) (.pair (.int .u64) (.pair (.int .u64) .unit))))) .unit))) .unit)))))) (.pair (.int .i64) (.pair (.slice (.int .i64)) .unit))))))], [.val .bool], []⟩
noncomputable def sm24a : CSem := mkSem sg24a fun x => batch_group x.1
noncomputable def cf24a : Cfg := cf [(25, sem25), (23, sem23), (50, sem50)] 45 0 []

noncomputable def sem24 : CSem := orSem sm24 (sm24a)

noncomputable def sg26 : Sig := ⟨[.val (.int .i64)], [.val .bool], []⟩
noncomputable def sm26 : CSem := mkSem sg26 fun x => batch_matches x.1
noncomputable def cf26 : Cfg := cf [] 13 0 []

noncomputable def sem26 : CSem := sm26

noncomputable def sg89 : Sig := ⟨[.val (.int .i64)], [.val .bool], []⟩
noncomputable def sm89 : CSem := mkSem sg89 fun x => vec_width x.1
noncomputable def cf89 : Cfg := cf [] 9 0 []

noncomputable def sem89 : CSem := sm89

noncomputable def ag91 : List AK := [.val (.agg (.pair (.int .i64) (.pair (.int .u64) (.pair (.int .u64) .unit))))]
noncomputable def al91 : List Alt := [([.val (.agg (.pair (.int .u64) (.pair (.int .u64) .unit)))], [])]
noncomputable def sm91 : CSem := mkSemA ag91 al91 fun x => vec_Word x.1
noncomputable def cf91 : Cfg := cf [] 8 0 []

noncomputable def sem91 : CSem := sm91

noncomputable def sg98 : Sig := ⟨[.val (.int .u64)], [.val (.int .i64)], []⟩
noncomputable def sm98 : CSem := mkSem sg98 fun x => bits_Len64 x.1
noncomputable def cf98 : Cfg := cf [] 25 0 []

noncomputable def sem98 : CSem := sm98

noncomputable def sg90 : Sig := ⟨[.val (.agg (.pair (.int .u64) (.pair (.int .u64) .unit)))], [.val (.int .i64)], []⟩
noncomputable def sm90 : CSem := mkSem sg90 fun x => word_Len x.1
noncomputable def cf90 : Cfg := cf [(98, sem98)] 13 0 []

noncomputable def sem90 : CSem := sm90

noncomputable def sg74 : Sig := ⟨[.val (.agg (.pair (.int .i64) (.pair (.int .u64) (.pair (.int .u64) .unit))))], [.val .bool], []⟩
noncomputable def sm74 : CSem := mkSem sg74 fun x => vec_May x.1
noncomputable def cf74 : Cfg := cf [(89, sem89), (91, sem91), (90, sem90)] 14 0 []

noncomputable def sem74 : CSem := sm74

noncomputable def sg73 : Sig := ⟨[.val (.agg (.pair (.int .i64) (.pair (.int .u64) (.pair (.int .u64) .unit))))], [.val .bool], []⟩
noncomputable def sm73 : CSem := mkSem sg73 fun x => batch_rows_1 x.1
noncomputable def cf73 : Cfg := cf [(74, sem74)] 6 0 []

noncomputable def sem73 : CSem := sm73

noncomputable def sg88 : Sig := ⟨[.val (.slice (.agg (.pair (.int .i64) (.pair (.int .u64) (.pair (.int .u64) .unit))))), .fnc 73], [.val (.int .i64)], []⟩
noncomputable def sm88 : CSem := mkSem sg88 fun x => slices_IndexFunc_api_Vec_api_Vec_d9d x.1
noncomputable def cf88 : Cfg := cf [(73, sem73)] 19 0 [(0, ⟨[(0, .dat (.slice (.agg (.pair (.int .i64) (.pair (.int .u64) (.pair (.int .u64) .unit)))))), (1, .fn 73 []), (7, .dat (.int .i64)), (8, .dat (.int .i64))], []⟩)]

noncomputable def sem88 : CSem := sm88

noncomputable def sg72 : Sig := ⟨[.val (.slice (.agg (.pair (.int .i64) (.pair (.int .u64) (.pair (.int .u64) .unit))))), .fnc 73], [.val .bool], []⟩
noncomputable def sm72 : CSem := mkSem sg72 fun x => slices_ContainsFunc_api_Vec_api_Vec_d9d x.1
noncomputable def cf72 : Cfg := cf [(88, sem88)] 9 0 []

noncomputable def sem72 : CSem := sm72

noncomputable def sg51 : Sig := ⟨[.val (.slice (.agg (.pair (.int .i64) (.pair (.int .u64) (.pair (.int .u64) .unit))))), .val (.int .i64)], [.val .bool], []⟩
noncomputable def sm51 : CSem := mkSem sg51 fun x => batch_rows x.1 x.2.1
noncomputable def cf51 : Cfg := cf [(72, sem72)] 14 0 []

noncomputable def sem51 : CSem := sm51

noncomputable def sg27 : Sig := ⟨[.val (.agg (.pair (.nils (.agg (.pair (.int .i64) (.pair (.int .u64) (.pair (.int .u64) .unit))))) (.pair (.nils (.agg (.pair (.int .i64) (.pair (.int .u64) (.pair (.int .u64) .unit))))) (.pair (.int .i64) (.pair (.int .i64) (.pair (.agg (.pair (.int .i64) (.pair (.nils (.agg (.pair (.int .i64) (.pair (.int .u64) (.pair (.int .u64) .unit))))) .unit))) .unit))))))], [.val .bool], []⟩
noncomputable def sm27 : CSem := mkSem sg27 fun x => batch_match_ea6 x.1
noncomputable def cf27 : Cfg := cf [(51, sem51), (23, sem23)] 21 0 []

noncomputable def sg27a : Sig := ⟨[.val (.agg (.pair (.slice (.agg (.pair (.int .i64) (.pair (.int .u64) (.pair (.int .u64) .unit))))) (.pair (.slice (.agg (.pair (.int .i64) (.pair (.int .u64) (.pair (.int .u64) .unit))))) (.pair (.int .i64) (.pair (.int .i64) (.pair (.agg (.pair (.int .i64) (.pair (.slice (.agg (.pair (.int .i64) (.pair (.int .u64) (.pair (.int .u64) .unit))))) .unit))) .unit))))))], [.val .bool], []⟩
noncomputable def sm27a : CSem := mkSem sg27a fun x => batch_match x.1
noncomputable def cf27a : Cfg := cf [(51, sem51), (23, sem23)] 21 0 []

noncomputable def sem27 : CSem := orSem sm27 (sm27a)

noncomputable def sg28 : Sig := ⟨[.val (.int .i64)], [.val .bool], []⟩
noncomputable def sm28 : CSem := mkSem sg28 fun x => batch_calls x.1
noncomputable def cf28 : Cfg := cf [] 13 0 []

noncomputable def sem28 : CSem := sm28

noncomputable def sg29 : Sig := ⟨[.val (.agg (.pair (.int .i64) (.pair (.nils (.agg (.pair (.int .i64) (.pair (.int .u64) (.pair (.int .u64) .unit))))) .unit)))], [.val .bool], []⟩
noncomputable def sm29 : CSem := mkSem sg29 fun x => batch_call_7ab x.1
noncomputable def cf29 : Cfg := cf [(23, sem23), (51, sem51)] 11 0 []

noncomputable def sg29a : Sig := ⟨[.val (.agg (.pair (.int .i64) (.pair (.slice (.agg (.pair (.int .i64) (.pair (.int .u64) (.pair (.int .u64) .unit))))) .unit)))], [.val .bool], []⟩
noncomputable def sm29a : CSem := mkSem sg29a fun x => batch_call x.1
noncomputable def cf29a : Cfg := cf [(23, sem23), (51, sem51)] 11 0 []

noncomputable def sem29 : CSem := orSem sm29 (sm29a)

noncomputable def sg11 : Sig := ⟨[.val (.agg (.pair (.int .i64) (.pair (.int .i64) (.pair (.agg (.pair (.nils (.agg (.pair (.int .i64) (.pair (.int .u64) (.pair (.int .u64) .unit))))) (.pair (.nils (.agg (.pair (.int .i64) (.pair (.int .u64) (.pair (.int .u64) .unit))))) (.pair (.int .i64) (.pair (.int .i64) (.pair (.agg (.pair (.int .i64) (.pair (.nils (.agg (.pair (.int .i64) (.pair (.int .u64) (.pair (.int .u64) .unit))))) .unit))) .unit)))))) (.pair (.int .i64) (.pair (.nils (.int .i64)) .unit))))))], [.val .bool], []⟩
noncomputable def sm11 : CSem := mkSem sg11 fun x => batch_May_cc5 x.1
noncomputable def cf11 : Cfg := cf [(23, sem23), (24, sem24), (25, sem25), (26, sem26), (27, sem27), (28, sem28), (29, sem29)] 63 0 []

noncomputable def sg11a : Sig := ⟨[.val (.agg (.pair (.int .i64) (.pair (.int .i64) (.pair (.agg (.pair (.slice (.agg (.pair (.int .i64) (.pair (.int .u64) (.pair (.int .u64) .unit))))) (.pair (.slice (.agg (.pair (.int .i64) (.pair (.int .u64) (.pair (.int .u64) .unit))))) (.pair (.int .i64) (.pair (.int .i64) (.pair (.agg (.pair (.int .i64) (.pair (.slice (.agg (.pair (.int .i64) (.pair (.int .u64) (.pair (.int .u64) .unit))))) .unit))) .unit)))))) (.pair (.int .i64) (.pair (.slice (.int .i64)) .unit))))))], [.val .bool], []⟩
noncomputable def sm11a : CSem := mkSem sg11a fun x => batch_May x.1
noncomputable def cf11a : Cfg := cf [(23, sem23), (24, sem24), (25, sem25), (26, sem26), (27, sem27), (28, sem28), (29, sem29)] 63 0 []

noncomputable def sem11 : CSem := orSem sm11 (sm11a)

noncomputable def sg33 : Sig := ⟨[.val (.agg (.pair (.int .i64) (.pair (.int .i64) (.pair (.agg (.pair (.nils (.agg (.pair (.int .i64) (.pair (.int .u64) (.pair (.int .u64) .unit))))) (.pair (.nils (.agg (.pair (.int .i64) (.pair (.int .u64) (.pair (.int .u64) .unit))))) (.pair (.int .i64) (.pair (.int .i64) (.pair (.agg (.pair (.int .i64) (.pair (.nils (.agg (.pair (.int .i64) (.pair (.int .u64) (.pair (.int .u64) .unit))))) .unit))) .unit)))))) (.pair (.int .i64) (.pair (.nils (.int .i64)) .unit))))))], [.val .bool], []⟩
noncomputable def sm33 : CSem := mkSem sg33 fun x => batch_Encode_1_cc5 x.1
noncomputable def cf33 : Cfg := cf [(11, sem11)] 6 0 []

noncomputable def sg33a : Sig := ⟨[.val (.agg (.pair (.int .i64) (.pair (.int .i64) (.pair (.agg (.pair (.slice (.agg (.pair (.int .i64) (.pair (.int .u64) (.pair (.int .u64) .unit))))) (.pair (.slice (.agg (.pair (.int .i64) (.pair (.int .u64) (.pair (.int .u64) .unit))))) (.pair (.int .i64) (.pair (.int .i64) (.pair (.agg (.pair (.int .i64) (.pair (.slice (.agg (.pair (.int .i64) (.pair (.int .u64) (.pair (.int .u64) .unit))))) .unit))) .unit)))))) (.pair (.int .i64) (.pair (.slice (.int .i64)) .unit))))))], [.val .bool], []⟩
noncomputable def sm33a : CSem := mkSem sg33a fun x => batch_Encode_1 x.1
noncomputable def cf33a : Cfg := cf [(11, sem11)] 6 0 []

noncomputable def sem33 : CSem := orSem sm33 (sm33a)

noncomputable def sg55 : Sig := ⟨[.val (.slice (.agg (.pair (.int .i64) (.pair (.int .i64) (.pair (.agg (.pair (.nils (.agg (.pair (.int .i64) (.pair (.int .u64) (.pair (.int .u64) .unit))))) (.pair (.nils (.agg (.pair (.int .i64) (.pair (.int .u64) (.pair (.int .u64) .unit))))) (.pair (.int .i64) (.pair (.int .i64) (.pair (.agg (.pair (.int .i64) (.pair (.nils (.agg (.pair (.int .i64) (.pair (.int .u64) (.pair (.int .u64) .unit))))) .unit))) .unit)))))) (.pair (.int .i64) (.pair (.nils (.int .i64)) .unit))))))), .fnc 33], [.val (.int .i64)], []⟩
noncomputable def sm55 : CSem := mkSem sg55 fun x => slices_IndexFunc_api_Update_api_Update_b0c x.1
noncomputable def cf55 : Cfg := cf [(33, sem33)] 19 0 [(0, ⟨[(0, .dat (.slice (.agg (.pair (.int .i64) (.pair (.int .i64) (.pair (.agg (.pair (.nils (.agg (.pair (.int .i64) (.pair (.int .u64) (.pair (.int .u64) .unit))))) (.pair (.nils (.agg (.pair (.int .i64) (.pair (.int .u64) (.pair (.int .u64) .unit))))) (.pair (.int .i64) (.pair (.int .i64) (.pair (.agg (.pair (.int .i64) (.pair (.nils (.agg (.pair (.int .i64) (.pair (.int .u64) (.pair (.int .u64) .unit))))) .unit))) .unit)))))) (.pair (.int .i64) (.pair (.nils (.int .i64)) .unit)))))))), (1, .fn 33 []), (7, .dat (.int .i64)), (8, .dat (.int .i64))], []⟩)]

noncomputable def sg55a : Sig := ⟨[.val (.slice (.agg (.pair (.int .i64) (.pair (.int .i64) (.pair (.agg (.pair (.slice (.agg (.pair (.int .i64) (.pair (.int .u64) (.pair (.int .u64) .unit))))) (.pair (.slice (.agg (.pair (.int .i64) (.pair (.int .u64) (.pair (.int .u64) .unit))))) (.pair (.int .i64) (.pair (.int .i64) (.pair (.agg (.pair (.int .i64) (.pair (.slice (.agg (.pair (.int .i64) (.pair (.int .u64) (.pair (.int .u64) .unit))))) .unit))) .unit)))))) (.pair (.int .i64) (.pair (.slice (.int .i64)) .unit))))))), .fnc 33], [.val (.int .i64)], []⟩
noncomputable def sm55a : CSem := mkSem sg55a fun x => slices_IndexFunc_api_Update_api_Update_d99 x.1
noncomputable def cf55a : Cfg := cf [(33, sem33)] 19 0 [(0, ⟨[(0, .dat (.slice (.agg (.pair (.int .i64) (.pair (.int .i64) (.pair (.agg (.pair (.slice (.agg (.pair (.int .i64) (.pair (.int .u64) (.pair (.int .u64) .unit))))) (.pair (.slice (.agg (.pair (.int .i64) (.pair (.int .u64) (.pair (.int .u64) .unit))))) (.pair (.int .i64) (.pair (.int .i64) (.pair (.agg (.pair (.int .i64) (.pair (.slice (.agg (.pair (.int .i64) (.pair (.int .u64) (.pair (.int .u64) .unit))))) .unit))) .unit)))))) (.pair (.int .i64) (.pair (.slice (.int .i64)) .unit)))))))), (1, .fn 33 []), (7, .dat (.int .i64)), (8, .dat (.int .i64))], []⟩)]

noncomputable def sem55 : CSem := orSem sm55 (sm55a)

noncomputable def sg32 : Sig := ⟨[.val (.slice (.agg (.pair (.int .i64) (.pair (.int .i64) (.pair (.agg (.pair (.nils (.agg (.pair (.int .i64) (.pair (.int .u64) (.pair (.int .u64) .unit))))) (.pair (.nils (.agg (.pair (.int .i64) (.pair (.int .u64) (.pair (.int .u64) .unit))))) (.pair (.int .i64) (.pair (.int .i64) (.pair (.agg (.pair (.int .i64) (.pair (.nils (.agg (.pair (.int .i64) (.pair (.int .u64) (.pair (.int .u64) .unit))))) .unit))) .unit)))))) (.pair (.int .i64) (.pair (.nils (.int .i64)) .unit))))))), .fnc 33], [.val .bool], []⟩
noncomputable def sm32 : CSem := mkSem sg32 fun x => slices_ContainsFunc_api_Update_api_Update_b0c x.1
noncomputable def cf32 : Cfg := cf [(55, sem55)] 9 0 []

noncomputable def sg32a : Sig := ⟨[.val (.slice (.agg (.pair (.int .i64) (.pair (.int .i64) (.pair (.agg (.pair (.slice (.agg (.pair (.int .i64) (.pair (.int .u64) (.pair (.int .u64) .unit))))) (.pair (.slice (.agg (.pair (.int .i64) (.pair (.int .u64) (.pair (.int .u64) .unit))))) (.pair (.int .i64) (.pair (.int .i64) (.pair (.agg (.pair (.int .i64) (.pair (.slice (.agg (.pair (.int .i64) (.pair (.int .u64) (.pair (.int .u64) .unit))))) .unit))) .unit)))))) (.pair (.int .i64) (.pair (.slice (.int .i64)) .unit))))))), .fnc 33], [.val .bool], []⟩
noncomputable def sm32a : CSem := mkSem sg32a fun x => slices_ContainsFunc_api_Update_api_Update_d99 x.1
noncomputable def cf32a : Cfg := cf [(55, sem55)] 9 0 []

noncomputable def sem32 : CSem := orSem sm32 (sm32a)

noncomputable def sg63 : Sig := ⟨[.val (.slice (.int .u8))], [.own (.own (.int .u8))], []⟩
noncomputable def sm63 : CSem := mkSem sg63 fun x => bytes_Clone x.1
noncomputable def cf63 : Cfg := cf [] 8 0 []

noncomputable def sem63 : CSem := sm63

noncomputable def sg76 : Sig := ⟨[.val (.slice (.int .u8))], [.own (.app (.int .u8))], []⟩
noncomputable def sm76 : CSem := mkSem sg76 fun x => slices_Clip_byte_byte x.1
noncomputable def cf76 : Cfg := cf [] 9 0 []

noncomputable def sem76 : CSem := sm76

noncomputable def sg56 : Sig := ⟨[.val (.slice (.int .u8)), .val (.int .i64), .val (.int .i64)], [.own (.app (.int .u8))], []⟩
noncomputable def sm56 : CSem := mkSem sg56 fun x => wire_put x.1 x.2.1 x.2.2.1
noncomputable def cf56 : Cfg := cf [(63, sem63), (76, sem76)] 29 0 [(0, ⟨[(1, .dat (.int .i64)), (2, .dat (.int .i64)), (7, .own (.int .u8) true), (12, .dat (.int .i64)), (13, .dat (.int .i64))], []⟩)]

noncomputable def sem56 : CSem := sm56

noncomputable def sg34 : Sig := ⟨[.val (.slice (.int .u8)), .val (.int .i64)], [.own (.app (.int .u8))], []⟩
noncomputable def sm34 : CSem := mkSem sg34 fun x => wire_Byte x.1 x.2.1
noncomputable def cf34 : Cfg := cf [(56, sem56)] 8 0 []

noncomputable def sem34 : CSem := sm34

noncomputable def sg57 : Sig := ⟨[.val (.slice (.int .u8)), .val (.slice (.int .i64))], [.own (.app (.int .u8))], []⟩
noncomputable def sm57 : CSem := mkSem sg57 fun x => wire_Numbers x.1 x.2.1
noncomputable def cf57 : Cfg := cf [(56, sem56)] 30 0 [(0, ⟨[(5, .own (.int .u8) true), (17, .dat (.slice (.int .i64))), (18, .dat (.int .i64)), (19, .dat (.int .i64))], []⟩)]

noncomputable def sem57 : CSem := sm57

noncomputable def sg92 : Sig := ⟨[.val (.int .i64)], [.val (.int .i64)], []⟩
noncomputable def sm92 : CSem := mkSem sg92 fun x => wire_room x.1
noncomputable def cf92 : Cfg := cf [] 7 0 []

noncomputable def sem92 : CSem := sm92

noncomputable def ag99 : List AK := [.val (.agg (.pair (.int .u64) (.pair (.int .u64) .unit))), .val (.int .i64)]
noncomputable def al99 : List Alt := [([.val (.agg (.pair (.int .u64) (.pair (.int .u64) .unit)))], [])]
noncomputable def sm99 (word_Shl : (Int × Int × Unit) → Int → Option (((Int × Int × Unit) × Unit) × (Unit))) : CSem := mkSemA ag99 al99 fun x => word_Shl x.1 x.2.1
noncomputable def ag93 : List AK := [.val (.agg (.pair (.int .u64) (.pair (.int .u64) .unit))), .val (.int .i64)]
noncomputable def al93 : List Alt := [([.val (.agg (.pair (.int .u64) (.pair (.int .u64) .unit)))], [])]
noncomputable def sm93 (word_Shr : (Int × Int × Unit) → Int → Option (((Int × Int × Unit) × Unit) × (Unit))) : CSem := mkSemA ag93 al93 fun x => word_Shr x.1 x.2.1
noncomputable def cf99 (word_Shl : (Int × Int × Unit) → Int → Option (((Int × Int × Unit) × Unit) × (Unit))) (word_Shr : (Int × Int × Unit) → Int → Option (((Int × Int × Unit) × Unit) × (Unit))) : Cfg := cf [(93, sm93 word_Shr)] 48 0 []
noncomputable def cf93 (word_Shl : (Int × Int × Unit) → Int → Option (((Int × Int × Unit) × Unit) × (Unit))) (word_Shr : (Int × Int × Unit) → Int → Option (((Int × Int × Unit) × Unit) × (Unit))) : Cfg := cf [(99, sm99 word_Shl)] 48 0 []

noncomputable def sem99 : CSem := (sm99 word_Shl)

noncomputable def sem93 : CSem := (sm93 word_Shr)

noncomputable def sg77 : Sig := ⟨[.val (.slice (.int .u8)), .val (.agg (.pair (.int .i64) (.pair (.int .u64) (.pair (.int .u64) .unit))))], [.own (.app (.int .u8))], []⟩
noncomputable def sm77 : CSem := mkSem sg77 fun x => wire_Vec x.1 x.2.1
noncomputable def cf77 : Cfg := cf [(74, sem74), (56, sem56), (92, sem92), (91, sem91), (93, sem93)] 35 0 [(0, ⟨[(3, .loc (nameOf 3 0) []), (5, .own (.int .u8) true), (6, .dat (.int .i64))], [((nameOf 3 0), (.agg (.pair (.int .i64) (.pair (.int .u64) (.pair (.int .u64) .unit)))))]⟩)]

noncomputable def sem77 : CSem := sm77

noncomputable def sg58 : Sig := ⟨[.val (.slice (.int .u8)), .val (.slice (.agg (.pair (.int .i64) (.pair (.int .u64) (.pair (.int .u64) .unit)))))], [.own (.app (.int .u8))], []⟩
noncomputable def sm58 : CSem := mkSem sg58 fun x => wire_Vecs x.1 x.2.1
noncomputable def cf58 : Cfg := cf [(56, sem56), (77, sem77)] 28 0 [(0, ⟨[(5, .own (.int .u8) true), (17, .dat (.slice (.agg (.pair (.int .i64) (.pair (.int .u64) (.pair (.int .u64) .unit)))))), (18, .dat (.int .i64)), (19, .dat (.int .i64))], []⟩)]

noncomputable def sem58 : CSem := sm58

noncomputable def sg59 : Sig := ⟨[.val (.slice (.int .u8)), .val (.int .i64)], [.own (.app (.int .u8))], []⟩
noncomputable def sm59 : CSem := mkSem sg59 fun x => wire_Two x.1 x.2.1
noncomputable def cf59 : Cfg := cf [(56, sem56)] 8 0 []

noncomputable def sem59 : CSem := sm59

noncomputable def sg35 : Sig := ⟨[.val (.slice (.int .u8)), .val (.agg (.pair (.int .i64) (.pair (.int .i64) (.pair (.agg (.pair (.nils (.agg (.pair (.int .i64) (.pair (.int .u64) (.pair (.int .u64) .unit))))) (.pair (.nils (.agg (.pair (.int .i64) (.pair (.int .u64) (.pair (.int .u64) .unit))))) (.pair (.int .i64) (.pair (.int .i64) (.pair (.agg (.pair (.int .i64) (.pair (.nils (.agg (.pair (.int .i64) (.pair (.int .u64) (.pair (.int .u64) .unit))))) .unit))) .unit)))))) (.pair (.int .i64) (.pair (.nils (.int .i64)) .unit))))))], [.own (.app (.int .u8))], []⟩
noncomputable def sm35 : CSem := mkSem sg35 fun x => batch_one_0f3 x.1 x.2.1
noncomputable def cf35 : Cfg := cf [(34, sem34), (57, sem57), (26, sem26), (58, sem58), (59, sem59), (28, sem28)] 56 0 []

noncomputable def sg35a : Sig := ⟨[.val (.slice (.int .u8)), .val (.agg (.pair (.int .i64) (.pair (.int .i64) (.pair (.agg (.pair (.slice (.agg (.pair (.int .i64) (.pair (.int .u64) (.pair (.int .u64) .unit))))) (.pair (.slice (.agg (.pair (.int .i64) (.pair (.int .u64) (.pair (.int .u64) .unit))))) (.pair (.int .i64) (.pair (.int .i64) (.pair (.agg (.pair (.int .i64) (.pair (.slice (.agg (.pair (.int .i64) (.pair (.int .u64) (.pair (.int .u64) .unit))))) .unit))) .unit)))))) (.pair (.int .i64) (.pair (.slice (.int .i64)) .unit))))))], [.own (.app (.int .u8))], []⟩
noncomputable def sm35a : CSem := mkSem sg35a fun x => batch_one x.1 x.2.1
noncomputable def cf35a : Cfg := cf [(34, sem34), (57, sem57), (26, sem26), (58, sem58), (59, sem59), (28, sem28)] 56 0 []

noncomputable def sem35 : CSem := orSem sm35 (sm35a)

noncomputable def sg13 : Sig := ⟨[.val (.slice (.agg (.pair (.int .i64) (.pair (.int .i64) (.pair (.agg (.pair (.nils (.agg (.pair (.int .i64) (.pair (.int .u64) (.pair (.int .u64) .unit))))) (.pair (.nils (.agg (.pair (.int .i64) (.pair (.int .u64) (.pair (.int .u64) .unit))))) (.pair (.int .i64) (.pair (.int .i64) (.pair (.agg (.pair (.int .i64) (.pair (.nils (.agg (.pair (.int .i64) (.pair (.int .u64) (.pair (.int .u64) .unit))))) .unit))) .unit)))))) (.pair (.int .i64) (.pair (.nils (.int .i64)) .unit)))))))], [.own (.app (.int .u8)), .val (.int .i64)], []⟩
noncomputable def sm13 : CSem := mkSem sg13 fun x => batch_Encode_f85 x.1
noncomputable def cf13 : Cfg := cf [(32, sem32), (34, sem34), (35, sem35)] 28 0 [(1, ⟨[(4, .own (.int .u8) true), (17, .dat (.slice (.agg (.pair (.int .i64) (.pair (.int .i64) (.pair (.agg (.pair (.nils (.agg (.pair (.int .i64) (.pair (.int .u64) (.pair (.int .u64) .unit))))) (.pair (.nils (.agg (.pair (.int .i64) (.pair (.int .u64) (.pair (.int .u64) .unit))))) (.pair (.int .i64) (.pair (.int .i64) (.pair (.agg (.pair (.int .i64) (.pair (.nils (.agg (.pair (.int .i64) (.pair (.int .u64) (.pair (.int .u64) .unit))))) .unit))) .unit)))))) (.pair (.int .i64) (.pair (.nils (.int .i64)) .unit)))))))), (18, .dat (.int .i64)), (19, .dat (.int .i64))], []⟩)]

noncomputable def sg13a : Sig := ⟨[.val (.slice (.agg (.pair (.int .i64) (.pair (.int .i64) (.pair (.agg (.pair (.slice (.agg (.pair (.int .i64) (.pair (.int .u64) (.pair (.int .u64) .unit))))) (.pair (.slice (.agg (.pair (.int .i64) (.pair (.int .u64) (.pair (.int .u64) .unit))))) (.pair (.int .i64) (.pair (.int .i64) (.pair (.agg (.pair (.int .i64) (.pair (.slice (.agg (.pair (.int .i64) (.pair (.int .u64) (.pair (.int .u64) .unit))))) .unit))) .unit)))))) (.pair (.int .i64) (.pair (.slice (.int .i64)) .unit)))))))], [.own (.app (.int .u8)), .val (.int .i64)], []⟩
noncomputable def sm13a : CSem := mkSem sg13a fun x => batch_Encode x.1
noncomputable def cf13a : Cfg := cf [(32, sem32), (34, sem34), (35, sem35)] 28 0 [(1, ⟨[(4, .own (.int .u8) true), (17, .dat (.slice (.agg (.pair (.int .i64) (.pair (.int .i64) (.pair (.agg (.pair (.slice (.agg (.pair (.int .i64) (.pair (.int .u64) (.pair (.int .u64) .unit))))) (.pair (.slice (.agg (.pair (.int .i64) (.pair (.int .u64) (.pair (.int .u64) .unit))))) (.pair (.int .i64) (.pair (.int .i64) (.pair (.agg (.pair (.int .i64) (.pair (.slice (.agg (.pair (.int .i64) (.pair (.int .u64) (.pair (.int .u64) .unit))))) .unit))) .unit)))))) (.pair (.int .i64) (.pair (.slice (.int .i64)) .unit)))))))), (18, .dat (.int .i64)), (19, .dat (.int .i64))], []⟩)]

noncomputable def sem13 : CSem := orSem sm13 (sm13a)

/-! ### shunter/shunterlaw25.lives -/
noncomputable def law25_lives : Option ((Bool × Unit) × (Unit)) :=
  (batch_Encode_f85 []).bind fun r_1 =>
  let t8_2 : Bool := decide (r_1.1.2.1 = 0)
  guardR t8_2 (some ()) () fun _ =>
  guardR t8_2 (some (r_1.1.1.length : Int)) 0 fun v_3 =>
  guardR t8_2 (some (decide (v_3 = 1))) false fun v_4 =>
  let t13_5 : Bool := bif t8_2 then v_4 else false
  guardR t13_5 (some ()) () fun _ =>
  guardR t13_5 (rdI r_1.1.1 0) 0 fun v_6 =>
  bif t13_5 then
    guardR t13_5 (some ()) () fun _ =>
    guardR t13_5 (some (decide (v_6 = 0))) false fun v_7 =>
    some (((bif t13_5 then v_7 else false), ()), ())
  else
  bif t13_5 then
    none
  else
  bif t13_5 then
    none
  else
  (bif t13_5 then none else some false).bind fun v_9 =>
  some ((v_9, ()), ())

noncomputable def sg9 : Sig := ⟨[], [.val .bool], []⟩
noncomputable def sm9 : CSem := mkSem sg9 fun x => law25_lives
noncomputable def cf9 : Cfg := cf [(13, sem13)] 20 0 []

noncomputable def sem9 : CSem := sm9

noncomputable def ag70 : List AK := [.val (.int .u64), .val (.int .u64)]
noncomputable def al70 : List Alt := [([.val (.agg (.arr 128 .bool))], [])]
noncomputable def sm70 : CSem := mkSemA ag70 al70 fun x => ref01_Of x.1 x.2.1
noncomputable def cf70 : Cfg := cf [] 27 0 [(0, ⟨[(0, .dat (.int .u64)), (1, .dat (.int .u64)), (4, .loc (nameOf 4 0) []), (5, .loc (nameOf 5 0) []), (6, .dat (.int .i64))], [((nameOf 4 0), (.agg (.arr 128 .bool))), ((nameOf 5 0), (.agg (.arr 128 .bool)))]⟩)]

noncomputable def sem70 : CSem := sm70

noncomputable def sg69 : Sig := ⟨[.val (.agg (.arr 128 .bool))], [.val (.int .i64)], []⟩
noncomputable def sm69 : CSem := mkSem sg69 fun x => ref01_Len x.1
noncomputable def cf69 : Cfg := cf [] 13 0 [(0, ⟨[(1, .loc (nameOf 1 0) []), (3, .dat (.int .i64))], [((nameOf 1 0), (.agg (.arr 128 .bool)))]⟩)]

noncomputable def sem69 : CSem := sm69

noncomputable def sg48 : Sig := ⟨[.val (.agg (.pair (.int .i64) (.pair (.int .u64) (.pair (.int .u64) .unit))))], [.val .bool], []⟩
noncomputable def sm48 : CSem := mkSem sg48 fun x => ref02_May x.1
noncomputable def cf48 : Cfg := cf [(70, sem70), (69, sem69)] 22 0 []

noncomputable def sem48 : CSem := sm48

noncomputable def sg21 : Sig := ⟨[.val (.slice (.agg (.pair (.int .i64) (.pair (.int .u64) (.pair (.int .u64) .unit))))), .val (.int .i64)], [.val .bool], []⟩
noncomputable def sm21 : CSem := mkSem sg21 fun x => ref25_rows x.1 x.2.1
noncomputable def cf21 : Cfg := cf [(48, sem48)] 22 0 [(0, ⟨[(0, .dat (.slice (.agg (.pair (.int .i64) (.pair (.int .u64) (.pair (.int .u64) .unit)))))), (1, .dat (.int .i64)), (5, .dat (.int .i64))], []⟩)]

noncomputable def sem21 : CSem := sm21

noncomputable def sg22 : Sig := ⟨[.val (.int .i64), .val (.int .i64)], [.val .bool], []⟩
noncomputable def sm22 : CSem := mkSem sg22 fun x => ref25_in x.1 x.2.1
noncomputable def cf22 : Cfg := cf [] 12 0 []

noncomputable def sem22 : CSem := sm22

noncomputable def sg10 : Sig := ⟨[.val (.agg (.pair (.int .i64) (.pair (.int .i64) (.pair (.agg (.pair (.slice (.agg (.pair (.int .i64) (.pair (.int .u64) (.pair (.int .u64) .unit))))) (.pair (.slice (.agg (.pair (.int .i64) (.pair (.int .u64) (.pair (.int .u64) .unit))))) (.pair (.int .i64) (.pair (.int .i64) (.pair (.agg (.pair (.int .i64) (.pair (.slice (.agg (.pair (.int .i64) (.pair (.int .u64) (.pair (.int .u64) .unit))))) .unit))) .unit)))))) (.pair (.int .i64) (.pair (.slice (.int .i64)) .unit))))))], [.val .bool], []⟩
noncomputable def sm10 : CSem := mkSem sg10 fun x => ref25_May x.1
noncomputable def cf10 : Cfg := cf [(21, sem21), (22, sem22)] 151 0 [(1, ⟨[(1, .loc (nameOf 1 0) []), (4, .dat .bool), (5, .dat .bool), (9, .dat (.int .i64))], [((nameOf 1 0), (.agg (.pair (.int .i64) (.pair (.int .i64) (.pair (.agg (.pair (.slice (.agg (.pair (.int .i64) (.pair (.int .u64) (.pair (.int .u64) .unit))))) (.pair (.slice (.agg (.pair (.int .i64) (.pair (.int .u64) (.pair (.int .u64) .unit))))) (.pair (.int .i64) (.pair (.int .i64) (.pair (.agg (.pair (.int .i64) (.pair (.slice (.agg (.pair (.int .i64) (.pair (.int .u64) (.pair (.int .u64) .unit))))) .unit))) .unit)))))) (.pair (.int .i64) (.pair (.slice (.int .i64)) .unit)))))))]⟩)]

noncomputable def sem10 : CSem := sm10

noncomputable def sg52 : Sig := ⟨[.val (.agg (.pair (.int .i64) (.pair (.int .u64) (.pair (.int .u64) .unit))))], [.own (.own .bool)], []⟩
noncomputable def sm52 : CSem := mkSem sg52 fun x => ref02_Bits x.1
noncomputable def cf52 : Cfg := cf [(70, sem70)] 28 0 [(0, ⟨[(1, .loc (nameOf 1 0) []), (3, .loc (nameOf 3 0) []), (4, .own .bool false), (5, .dat (.int .i64))], [((nameOf 1 0), (.agg (.pair (.int .i64) (.pair (.int .u64) (.pair (.int .u64) .unit))))), ((nameOf 3 0), (.agg (.arr 128 .bool)))]⟩)]

noncomputable def sem52 : CSem := sm52

noncomputable def sg53 : Sig := ⟨[.val (.slice .bool)], [.own (.own (.int .u8))], []⟩
noncomputable def sm53 : CSem := mkSem sg53 fun x => ref03_Bytes x.1
noncomputable def cf53 : Cfg := cf [] 40 0 [(2, ⟨[(0, .dat (.slice .bool)), (3, .own (.int .u8) false), (4, .dat (.int .i64)), (5, .dat (.int .i64)), (6, .dat (.int .i64))], []⟩), (0, ⟨[(0, .dat (.slice .bool)), (3, .own (.int .u8) false), (4, .dat (.int .i64))], []⟩)]

noncomputable def sem53 : CSem := sm53

noncomputable def sg30 : Sig := ⟨[.val (.int .i64), .val (.int .i64)], [.own (.own (.int .u8))], []⟩
noncomputable def sm30 : CSem := mkSem sg30 fun x => ref07_Number x.1 x.2.1
noncomputable def cf30 : Cfg := cf [(52, sem52), (53, sem53)] 28 0 [(0, ⟨[(5, .own .bool false), (6, .own .bool false), (7, .dat (.int .i64))], []⟩)]

noncomputable def sem30 : CSem := sm30

noncomputable def sg75 : Sig := ⟨[.val (.agg (.pair (.int .i64) (.pair (.int .u64) (.pair (.int .u64) .unit))))], [.own (.own .bool)], []⟩
noncomputable def sm75 : CSem := mkSem sg75 fun x => ref03_Of x.1
noncomputable def cf75 : Cfg := cf [(52, sem52)] 23 0 [(0, ⟨[(3, .own .bool false), (4, .own .bool false), (5, .dat (.int .i64))], []⟩)]

noncomputable def sem75 : CSem := sm75

noncomputable def sg54 : Sig := ⟨[.val (.agg (.pair (.int .i64) (.pair (.int .u64) (.pair (.int .u64) .unit))))], [.own (.own (.int .u8))], []⟩
noncomputable def sm54 : CSem := mkSem sg54 fun x => ref07_Vec x.1
noncomputable def cf54 : Cfg := cf [(48, sem48), (75, sem75), (53, sem53)] 30 0 [(0, ⟨[(1, .loc (nameOf 1 0) []), (3, .own .bool false)], [((nameOf 1 0), (.agg (.pair (.int .i64) (.pair (.int .u64) (.pair (.int .u64) .unit)))))]⟩)]

noncomputable def sem54 : CSem := sm54

noncomputable def sg31 : Sig := ⟨[.val (.slice (.agg (.pair (.int .i64) (.pair (.int .u64) (.pair (.int .u64) .unit)))))], [.own (.own (.int .u8))], []⟩
noncomputable def sm31 : CSem := mkSem sg31 fun x => ref25_vecs x.1
noncomputable def cf31 : Cfg := cf [(30, sem30), (54, sem54)] 22 0 [(0, ⟨[(0, .dat (.slice (.agg (.pair (.int .i64) (.pair (.int .u64) (.pair (.int .u64) .unit)))))), (3, .own (.int .u8) false), (4, .dat (.int .i64))], []⟩)]

noncomputable def sem31 : CSem := sm31

noncomputable def sg12 : Sig := ⟨[.val (.agg (.pair (.int .i64) (.pair (.int .i64) (.pair (.agg (.pair (.slice (.agg (.pair (.int .i64) (.pair (.int .u64) (.pair (.int .u64) .unit))))) (.pair (.slice (.agg (.pair (.int .i64) (.pair (.int .u64) (.pair (.int .u64) .unit))))) (.pair (.int .i64) (.pair (.int .i64) (.pair (.agg (.pair (.int .i64) (.pair (.slice (.agg (.pair (.int .i64) (.pair (.int .u64) (.pair (.int .u64) .unit))))) .unit))) .unit)))))) (.pair (.int .i64) (.pair (.slice (.int .i64)) .unit))))))], [.own (.own (.int .u8))], []⟩
noncomputable def sm12 : CSem := mkSem sg12 fun x => ref25_Bytes x.1
noncomputable def cf12 : Cfg := cf [(30, sem30), (31, sem31)] 88 0 [(0, ⟨[(1, .loc (nameOf 1 0) []), (3, .own (.int .u8) false), (4, .dat (.int .i64))], [((nameOf 1 0), (.agg (.pair (.int .i64) (.pair (.int .i64) (.pair (.agg (.pair (.slice (.agg (.pair (.int .i64) (.pair (.int .u64) (.pair (.int .u64) .unit))))) (.pair (.slice (.agg (.pair (.int .i64) (.pair (.int .u64) (.pair (.int .u64) .unit))))) (.pair (.int .i64) (.pair (.int .i64) (.pair (.agg (.pair (.int .i64) (.pair (.slice (.agg (.pair (.int .i64) (.pair (.int .u64) (.pair (.int .u64) .unit))))) .unit))) .unit)))))) (.pair (.int .i64) (.pair (.slice (.int .i64)) .unit)))))))]⟩)]

noncomputable def sem12 : CSem := sm12

/-! ### shunter/shunterlaw25.BatchWrites -/
noncomputable def law25_BatchWrites_s0 (l_0_0 : List (Int × Int × ((List (Int × Int × Int × Unit)) × (List (Int × Int × Int × Unit)) × Int × Int × (Int × (List (Int × Int × Int × Unit)) × Unit) × Unit) × Int × (List Int) × Unit)) (want_3_0 : List Int) (may_4_0 : Bool) (i_5_0 : Int) : Option ((((List (Int × Int × ((List (Int × Int × Int × Unit)) × (List (Int × Int × Int × Unit)) × Int × Int × (Int × (List (Int × Int × Int × Unit)) × Unit) × Unit) × Int × (List Int) × Unit)) × (List Int) × Bool × Int × Unit) × (Unit)) ⊕ ((Bool × Unit) × (Unit))) :=
  bif (decide (i_5_0 < (l_0_0.length : Int))) then
    (rdI l_0_0 i_5_0).bind fun v_7 =>
    (ref25_May v_7).bind fun r_8 =>
    (rdI l_0_0 i_5_0).bind fun v_9 =>
    (batch_May v_9).bind fun r_10 =>
    bif (!(decide (r_10.1.1 = r_8.1.1))) then
      some (.inr ((false, ()), ()))
    else
    guardR may_4_0 (some ()) () fun _ =>
    let t38_12 : Bool := bif may_4_0 then r_8.1.1 else false
    bif r_8.1.1 then
      (rdI l_0_0 i_5_0).bind fun v_13 =>
      (ref25_Bytes v_13).bind fun r_14 =>
      (roomI 1 want_3_0 r_14.1.1).bind fun v_15 =>
      some (.inl ((l_0_0, v_15, t38_12, (IntKind.i64.wrap (i_5_0 + 1)), ()), ()))
    else
    some (.inl ((l_0_0, want_3_0, t38_12, (IntKind.i64.wrap (i_5_0 + 1)), ()), ()))
  else
  ((batch_Encode l_0_0).bind fun r_18 =>
  bif (decide ((l_0_0.length : Int) > 64)) then
    let t57_22 : Bool := decide ((r_18.1.1.length : Int) = 0)
    guardR t57_22 (some ()) () fun _ =>
    guardR t57_22 (some (decide (r_18.1.2.1 = 2))) false fun v_23 =>
    let t61_24 : Bool := bif t57_22 then v_23 else false
    guardR t61_24 law25_lives ((false, ()), ()) fun r_25 =>
    some (((bif t61_24 then r_25.1.1 else false), ()), ())
  else
  bif !may_4_0 then
    let t69_28 : Bool := decide ((r_18.1.1.length : Int) = 0)
    guardR t69_28 (some ()) () fun _ =>
    guardR t69_28 (some (decide (r_18.1.2.1 = 1))) false fun v_29 =>
    let t73_30 : Bool := bif t69_28 then v_29 else false
    guardR t73_30 law25_lives ((false, ()), ()) fun r_31 =>
    some (((bif t73_30 then r_31.1.1 else false), ()), ())
  else
  let t81_33 : Bool := decide (r_18.1.1 = want_3_0)
  guardR t81_33 (some ()) () fun _ =>
  guardR t81_33 (some (decide (r_18.1.2.1 = 0))) false fun v_34 =>
  let t85_35 : Bool := bif t81_33 then v_34 else false
  guardR t85_35 law25_lives ((false, ()), ()) fun r_36 =>
  some (((bif t85_35 then r_36.1.1 else false), ()), ())).map .inr
noncomputable def law25_BatchWrites (l_0 : List (Int × Int × ((List (Int × Int × Int × Unit)) × (List (Int × Int × Int × Unit)) × Int × Int × (Int × (List (Int × Int × Int × Unit)) × Unit) × Unit) × Int × (List Int) × Unit)) : Option ((Bool × Unit) × (Unit)) :=
  (law25_light l_0).bind fun r_1 =>
  bif !r_1.1.1 then
    law25_lives.bind fun r_2 =>
    some ((r_2.1.1, ()), ())
  else
  loopR (fun (z : ((List (Int × Int × ((List (Int × Int × Int × Unit)) × (List (Int × Int × Int × Unit)) × Int × Int × (Int × (List (Int × Int × Int × Unit)) × Unit) × Unit) × Int × (List Int) × Unit)) × (List Int) × Bool × Int × Unit) × (Unit)) => law25_BatchWrites_s0 z.1.1 z.1.2.1 z.1.2.2.1 z.1.2.2.2.1) ((l_0, [(IntKind.u8.wrap (l_0.length : Int))], true, 0, ()), ())

noncomputable def sg3 : Sig := ⟨[.val (.slice (.agg (.pair (.int .i64) (.pair (.int .i64) (.pair (.agg (.pair (.slice (.agg (.pair (.int .i64) (.pair (.int .u64) (.pair (.int .u64) .unit))))) (.pair (.slice (.agg (.pair (.int .i64) (.pair (.int .u64) (.pair (.int .u64) .unit))))) (.pair (.int .i64) (.pair (.int .i64) (.pair (.agg (.pair (.int .i64) (.pair (.slice (.agg (.pair (.int .i64) (.pair (.int .u64) (.pair (.int .u64) .unit))))) .unit))) .unit)))))) (.pair (.int .i64) (.pair (.slice (.int .i64)) .unit)))))))], [.val .bool], []⟩
noncomputable def sm3 : CSem := mkSem sg3 fun x => law25_BatchWrites x.1
noncomputable def cf3 : Cfg := cf [(8, sem8), (9, sem9), (10, sem10), (11, sem11), (12, sem12), (13, sem13)] 89 0 [(0, ⟨[(0, .dat (.slice (.agg (.pair (.int .i64) (.pair (.int .i64) (.pair (.agg (.pair (.slice (.agg (.pair (.int .i64) (.pair (.int .u64) (.pair (.int .u64) .unit))))) (.pair (.slice (.agg (.pair (.int .i64) (.pair (.int .u64) (.pair (.int .u64) .unit))))) (.pair (.int .i64) (.pair (.int .i64) (.pair (.agg (.pair (.int .i64) (.pair (.slice (.agg (.pair (.int .i64) (.pair (.int .u64) (.pair (.int .u64) .unit))))) .unit))) .unit)))))) (.pair (.int .i64) (.pair (.slice (.int .i64)) .unit)))))))), (3, .own (.int .u8) false), (4, .dat .bool), (5, .dat (.int .i64))], []⟩)]

noncomputable def sem3 : CSem := sm3

noncomputable def sg36 : Sig := ⟨[.val (.slice (.agg (.pair (.int .i64) (.pair (.int .u64) (.pair (.int .u64) .unit))))), .val (.slice (.agg (.pair (.int .i64) (.pair (.int .u64) (.pair (.int .u64) .unit)))))], [.val .bool], []⟩
noncomputable def sm36 : CSem := mkSem sg36 fun x => slices_Equal_api_Vec_api_Vec x.1 x.2.1
noncomputable def cf36 : Cfg := cf [] 26 0 [(0, ⟨[(0, .dat (.slice (.agg (.pair (.int .i64) (.pair (.int .u64) (.pair (.int .u64) .unit)))))), (1, .dat (.slice (.agg (.pair (.int .i64) (.pair (.int .u64) (.pair (.int .u64) .unit)))))), (12, .dat (.int .i64)), (13, .dat (.int .i64))], []⟩)]

noncomputable def sem36 : CSem := sm36

noncomputable def sg37 : Sig := ⟨[.val (.agg (.pair (.int .i64) (.pair (.slice (.agg (.pair (.int .i64) (.pair (.int .u64) (.pair (.int .u64) .unit))))) .unit))), .val (.agg (.pair (.int .i64) (.pair (.slice (.agg (.pair (.int .i64) (.pair (.int .u64) (.pair (.int .u64) .unit))))) .unit)))], [.val .bool], []⟩
noncomputable def sm37 : CSem := mkSem sg37 fun x => batch_same x.1 x.2.1
noncomputable def cf37 : Cfg := cf [(36, sem36)] 17 0 []

noncomputable def sem37 : CSem := sm37

noncomputable def sg38 : Sig := ⟨[.val (.slice (.int .i64)), .val (.slice (.int .i64))], [.val .bool], []⟩
noncomputable def sm38 : CSem := mkSem sg38 fun x => slices_Equal_int_int x.1 x.2.1
noncomputable def cf38 : Cfg := cf [] 26 0 [(0, ⟨[(0, .dat (.slice (.int .i64))), (1, .dat (.slice (.int .i64))), (12, .dat (.int .i64)), (13, .dat (.int .i64))], []⟩)]

noncomputable def sem38 : CSem := sm38

noncomputable def sg14 : Sig := ⟨[.val (.agg (.pair (.int .i64) (.pair (.int .i64) (.pair (.agg (.pair (.slice (.agg (.pair (.int .i64) (.pair (.int .u64) (.pair (.int .u64) .unit))))) (.pair (.slice (.agg (.pair (.int .i64) (.pair (.int .u64) (.pair (.int .u64) .unit))))) (.pair (.int .i64) (.pair (.int .i64) (.pair (.agg (.pair (.int .i64) (.pair (.slice (.agg (.pair (.int .i64) (.pair (.int .u64) (.pair (.int .u64) .unit))))) .unit))) .unit)))))) (.pair (.int .i64) (.pair (.slice (.int .i64)) .unit)))))), .val (.agg (.pair (.int .i64) (.pair (.int .i64) (.pair (.agg (.pair (.slice (.agg (.pair (.int .i64) (.pair (.int .u64) (.pair (.int .u64) .unit))))) (.pair (.slice (.agg (.pair (.int .i64) (.pair (.int .u64) (.pair (.int .u64) .unit))))) (.pair (.int .i64) (.pair (.int .i64) (.pair (.agg (.pair (.int .i64) (.pair (.slice (.agg (.pair (.int .i64) (.pair (.int .u64) (.pair (.int .u64) .unit))))) .unit))) .unit)))))) (.pair (.int .i64) (.pair (.slice (.int .i64)) .unit))))))], [.val .bool], []⟩
noncomputable def sm14 : CSem := mkSem sg14 fun x => batch_Same x.1 x.2.1
noncomputable def cf14 : Cfg := cf [(36, sem36), (37, sem37), (38, sem38)] 74 0 []

noncomputable def sem14 : CSem := sm14

noncomputable def sg39 : Sig := ⟨[.val (.slice (.agg (.pair (.int .i64) (.pair (.int .u64) (.pair (.int .u64) .unit))))), .val (.slice (.agg (.pair (.int .i64) (.pair (.int .u64) (.pair (.int .u64) .unit)))))], [.val .bool], []⟩
noncomputable def sm39 : CSem := mkSem sg39 fun x => ref22_Same x.1 x.2.1
noncomputable def cf39 : Cfg := cf [] 26 0 [(0, ⟨[(0, .dat (.slice (.agg (.pair (.int .i64) (.pair (.int .u64) (.pair (.int .u64) .unit)))))), (1, .dat (.slice (.agg (.pair (.int .i64) (.pair (.int .u64) (.pair (.int .u64) .unit)))))), (5, .dat (.int .i64))], []⟩)]

noncomputable def sem39 : CSem := sm39

noncomputable def sg15 : Sig := ⟨[.val (.agg (.pair (.int .i64) (.pair (.int .i64) (.pair (.agg (.pair (.slice (.agg (.pair (.int .i64) (.pair (.int .u64) (.pair (.int .u64) .unit))))) (.pair (.slice (.agg (.pair (.int .i64) (.pair (.int .u64) (.pair (.int .u64) .unit))))) (.pair (.int .i64) (.pair (.int .i64) (.pair (.agg (.pair (.int .i64) (.pair (.slice (.agg (.pair (.int .i64) (.pair (.int .u64) (.pair (.int .u64) .unit))))) .unit))) .unit)))))) (.pair (.int .i64) (.pair (.slice (.int .i64)) .unit)))))), .val (.agg (.pair (.int .i64) (.pair (.int .i64) (.pair (.agg (.pair (.slice (.agg (.pair (.int .i64) (.pair (.int .u64) (.pair (.int .u64) .unit))))) (.pair (.slice (.agg (.pair (.int .i64) (.pair (.int .u64) (.pair (.int .u64) .unit))))) (.pair (.int .i64) (.pair (.int .i64) (.pair (.agg (.pair (.int .i64) (.pair (.slice (.agg (.pair (.int .i64) (.pair (.int .u64) (.pair (.int .u64) .unit))))) .unit))) .unit)))))) (.pair (.int .i64) (.pair (.slice (.int .i64)) .unit))))))], [.val .bool], []⟩
noncomputable def sm15 : CSem := mkSem sg15 fun x => ref25_Same x.1 x.2.1
noncomputable def cf15 : Cfg := cf [(39, sem39)] 102 0 [(0, ⟨[(2, .loc (nameOf 2 0) []), (3, .loc (nameOf 3 0) []), (5, .loc (nameOf 5 0) []), (6, .loc (nameOf 6 0) []), (7, .dat (.int .i64))], [((nameOf 2 0), (.agg (.pair (.int .i64) (.pair (.int .i64) (.pair (.agg (.pair (.slice (.agg (.pair (.int .i64) (.pair (.int .u64) (.pair (.int .u64) .unit))))) (.pair (.slice (.agg (.pair (.int .i64) (.pair (.int .u64) (.pair (.int .u64) .unit))))) (.pair (.int .i64) (.pair (.int .i64) (.pair (.agg (.pair (.int .i64) (.pair (.slice (.agg (.pair (.int .i64) (.pair (.int .u64) (.pair (.int .u64) .unit))))) .unit))) .unit)))))) (.pair (.int .i64) (.pair (.slice (.int .i64)) .unit))))))), ((nameOf 3 0), (.agg (.pair (.int .i64) (.pair (.int .i64) (.pair (.agg (.pair (.slice (.agg (.pair (.int .i64) (.pair (.int .u64) (.pair (.int .u64) .unit))))) (.pair (.slice (.agg (.pair (.int .i64) (.pair (.int .u64) (.pair (.int .u64) .unit))))) (.pair (.int .i64) (.pair (.int .i64) (.pair (.agg (.pair (.int .i64) (.pair (.slice (.agg (.pair (.int .i64) (.pair (.int .u64) (.pair (.int .u64) .unit))))) .unit))) .unit)))))) (.pair (.int .i64) (.pair (.slice (.int .i64)) .unit))))))), ((nameOf 5 0), (.agg (.pair (.slice (.agg (.pair (.int .i64) (.pair (.int .u64) (.pair (.int .u64) .unit))))) (.pair (.slice (.agg (.pair (.int .i64) (.pair (.int .u64) (.pair (.int .u64) .unit))))) (.pair (.int .i64) (.pair (.int .i64) (.pair (.agg (.pair (.int .i64) (.pair (.slice (.agg (.pair (.int .i64) (.pair (.int .u64) (.pair (.int .u64) .unit))))) .unit))) .unit))))))), ((nameOf 6 0), (.agg (.pair (.slice (.agg (.pair (.int .i64) (.pair (.int .u64) (.pair (.int .u64) .unit))))) (.pair (.slice (.agg (.pair (.int .i64) (.pair (.int .u64) (.pair (.int .u64) .unit))))) (.pair (.int .i64) (.pair (.int .i64) (.pair (.agg (.pair (.int .i64) (.pair (.slice (.agg (.pair (.int .i64) (.pair (.int .u64) (.pair (.int .u64) .unit))))) .unit))) .unit)))))))]⟩)]

noncomputable def sem15 : CSem := sm15

noncomputable def sg40 : Sig := ⟨[.val (.slice (.int .i64))], [.own (.own (.int .i64))], []⟩
noncomputable def sm40 : CSem := mkSem sg40 fun x => slices_Clone_int_int x.1
noncomputable def cf40 : Cfg := cf [] 8 0 []

noncomputable def sem40 : CSem := sm40

noncomputable def sg41 : Sig := ⟨[.val (.slice (.agg (.pair (.int .i64) (.pair (.int .u64) (.pair (.int .u64) .unit)))))], [.own (.own (.agg (.pair (.int .i64) (.pair (.int .u64) (.pair (.int .u64) .unit)))))], []⟩
noncomputable def sm41 : CSem := mkSem sg41 fun x => slices_Clone_api_Vec_api_Vec x.1
noncomputable def cf41 : Cfg := cf [] 8 0 []

noncomputable def sem41 : CSem := sm41

noncomputable def ag16 : List AK := [.val (.agg (.pair (.int .i64) (.pair (.int .i64) (.pair (.agg (.pair (.slice (.agg (.pair (.int .i64) (.pair (.int .u64) (.pair (.int .u64) .unit))))) (.pair (.slice (.agg (.pair (.int .i64) (.pair (.int .u64) (.pair (.int .u64) .unit))))) (.pair (.int .i64) (.pair (.int .i64) (.pair (.agg (.pair (.int .i64) (.pair (.slice (.agg (.pair (.int .i64) (.pair (.int .u64) (.pair (.int .u64) .unit))))) .unit))) .unit)))))) (.pair (.int .i64) (.pair (.slice (.int .i64)) .unit))))))]
noncomputable def al16 : List Alt := [([.own (.agg (.pair (.int .i64) (.pair (.int .i64) (.pair (.agg (.pair (.own (.agg (.pair (.int .i64) (.pair (.int .u64) (.pair (.int .u64) .unit))))) (.pair (.own (.agg (.pair (.int .i64) (.pair (.int .u64) (.pair (.int .u64) .unit))))) (.pair (.int .i64) (.pair (.int .i64) (.pair (.agg (.pair (.int .i64) (.pair (.own (.agg (.pair (.int .i64) (.pair (.int .u64) (.pair (.int .u64) .unit))))) .unit))) .unit)))))) (.pair (.int .i64) (.pair (.own (.int .i64)) .unit))))))], [])]
noncomputable def sm16 : CSem := mkSemA ag16 al16 fun x => batch_Copy x.1
noncomputable def cf16 : Cfg := cf [(40, sem40), (41, sem41)] 28 0 []

noncomputable def sem16 : CSem := sm16

/-! ### shunter/shunterlaw25.BatchCopies -/
noncomputable def law25_BatchCopies (a_0 : Int × Int × ((List (Int × Int × Int × Unit)) × (List (Int × Int × Int × Unit)) × Int × Int × (Int × (List (Int × Int × Int × Unit)) × Unit) × Unit) × Int × (List Int) × Unit) (b_1 : Int × Int × ((List (Int × Int × Int × Unit)) × (List (Int × Int × Int × Unit)) × Int × Int × (Int × (List (Int × Int × Int × Unit)) × Unit) × Unit) × Int × (List Int) × Unit) : Option ((Bool × Unit) × (Unit)) :=
  (law25_light [(a_0.1, a_0.2.1, (a_0.2.2.1.1, a_0.2.2.1.2.1, a_0.2.2.1.2.2.1, a_0.2.2.1.2.2.2.1, (a_0.2.2.1.2.2.2.2.1.1, a_0.2.2.1.2.2.2.2.1.2.1, ()), ()), a_0.2.2.2.1, a_0.2.2.2.2.1, ()), (b_1.1, b_1.2.1, (b_1.2.2.1.1, b_1.2.2.1.2.1, b_1.2.2.1.2.2.1, b_1.2.2.1.2.2.2.1, (b_1.2.2.1.2.2.2.2.1.1, b_1.2.2.1.2.2.2.2.1.2.1, ()), ()), b_1.2.2.2.1, b_1.2.2.2.2.1, ())]).bind fun r_1 =>
  bif !r_1.1.1 then
    law25_lives.bind fun r_2 =>
    some ((r_2.1.1, ()), ())
  else
  (batch_Same (a_0.1, a_0.2.1, (a_0.2.2.1.1, a_0.2.2.1.2.1, a_0.2.2.1.2.2.1, a_0.2.2.1.2.2.2.1, (a_0.2.2.1.2.2.2.2.1.1, a_0.2.2.1.2.2.2.2.1.2.1, ()), ()), a_0.2.2.2.1, a_0.2.2.2.2.1, ()) (b_1.1, b_1.2.1, (b_1.2.2.1.1, b_1.2.2.1.2.1, b_1.2.2.1.2.2.1, b_1.2.2.1.2.2.2.1, (b_1.2.2.1.2.2.2.2.1.1, b_1.2.2.1.2.2.2.2.1.2.1, ()), ()), b_1.2.2.2.1, b_1.2.2.2.2.1, ())).bind fun r_3 =>
  (ref25_Same (a_0.1, a_0.2.1, (a_0.2.2.1.1, a_0.2.2.1.2.1, a_0.2.2.1.2.2.1, a_0.2.2.1.2.2.2.1, (a_0.2.2.1.2.2.2.2.1.1, a_0.2.2.1.2.2.2.2.1.2.1, ()), ()), a_0.2.2.2.1, a_0.2.2.2.2.1, ()) (b_1.1, b_1.2.1, (b_1.2.2.1.1, b_1.2.2.1.2.1, b_1.2.2.1.2.2.1, b_1.2.2.1.2.2.2.1, (b_1.2.2.1.2.2.2.2.1.1, b_1.2.2.1.2.2.2.2.1.2.1, ()), ()), b_1.2.2.2.1, b_1.2.2.2.2.1, ())).bind fun r_4 =>
  bif (!(decide (r_3.1.1 = r_4.1.1))) then
    some ((false, ()), ())
  else
  (batch_Copy (a_0.1, a_0.2.1, (a_0.2.2.1.1, a_0.2.2.1.2.1, a_0.2.2.1.2.2.1, a_0.2.2.1.2.2.2.1, (a_0.2.2.1.2.2.2.2.1.1, a_0.2.2.1.2.2.2.2.1.2.1, ()), ()), a_0.2.2.2.1, a_0.2.2.2.2.1, ())).bind fun r_6 =>
  (batch_Copy (a_0.1, a_0.2.1, (a_0.2.2.1.1, a_0.2.2.1.2.1, a_0.2.2.1.2.2.1, a_0.2.2.1.2.2.2.1, (a_0.2.2.1.2.2.2.2.1.1, a_0.2.2.1.2.2.2.2.1.2.1, ()), ()), a_0.2.2.2.1, a_0.2.2.2.2.1, ())).bind fun r_7 =>
  (batch_Same (a_0.1, a_0.2.1, (a_0.2.2.1.1, a_0.2.2.1.2.1, a_0.2.2.1.2.2.1, a_0.2.2.1.2.2.2.1, (a_0.2.2.1.2.2.2.2.1.1, a_0.2.2.1.2.2.2.2.1.2.1, ()), ()), a_0.2.2.2.1, a_0.2.2.2.2.1, ()) r_6.1.1).bind fun r_8 =>
  bif !r_8.1.1 then
    some ((false, ()), ())
  else
  bif (decide ((r_6.1.1.2.2.2.2.1.length : Int) > 0)) then
    (Option.map (fun _ => 0) (ckI 0 r_6.1.1.2.2.2.2.1.length)).bind fun v_11 =>
    (rdI r_6.1.1.2.2.2.2.1 v_11).bind fun v_12 =>
    (Option.map (fun _ => 0) (ckI 0 r_6.1.1.2.2.2.2.1.length)).bind fun v_15 =>
    ((((((stI r_6.1.1.2.2.2.2.1 v_15 (IntKind.i64.wrap (1 - (minI (maxI v_12 0) 1)))).map fun w => (w, r_6.1.1.2.2.2.2.2)).map fun w => (r_6.1.1.2.2.2.1, w)).map fun w => (r_6.1.1.2.2.1, w)).map fun w => (r_6.1.1.2.1, w)).map fun w => (r_6.1.1.1, w)).bind fun v_16 =>
    (Option.map (fun _ => 0) (ckI 0 v_16.2.2.2.2.1.length)).bind fun v_17 =>
    (rdI v_16.2.2.2.2.1 v_17).bind fun v_18 =>
    (rdI a_0.2.2.2.2.1 0).bind fun v_19 =>
    let t51_20 : Bool := !decide (v_18 = v_19)
    bif !t51_20 then
      some ((false, ()), ())
    else
    bif (decide ((v_16.2.2.1.1.length : Int) > 0)) then
      (Option.map (fun _ => 0) (ckI 0 v_16.2.2.1.1.length)).bind fun v_23 =>
      ((rdI v_16.2.2.1.1 v_23).map (·.1)).bind fun v_24 =>
      (Option.map (fun _ => 0) (ckI 0 v_16.2.2.1.1.length)).bind fun v_27 =>
      (((((((rdI v_16.2.2.1.1 v_27).map fun v => ((IntKind.i64.wrap (1 - (minI (maxI v_24 0) 1))), v.2)).bind fun v => stI v_16.2.2.1.1 v_27 v).map fun w => (w, v_16.2.2.1.2)).map fun w => (w, v_16.2.2.2)).map fun w => (v_16.2.1, w)).map fun w => (v_16.1, w)).bind fun v_28 =>
      bif (decide ((v_28.2.2.1.2.2.2.2.1.2.1.length : Int) > 0)) then
        (Option.map (fun _ => 0) (ckI 0 v_28.2.2.1.2.2.2.2.1.2.1.length)).bind fun v_31 =>
        ((((rdI v_28.2.2.1.2.2.2.2.1.2.1 v_31).map (·.2)).map (·.2)).map (·.1)).bind fun v_32 =>
        (Option.map (fun _ => 0) (ckI 0 v_28.2.2.1.2.2.2.2.1.2.1.length)).bind fun v_34 =>
        (((((((((((((rdI v_28.2.2.1.2.2.2.2.1.2.1 v_34).bind fun v => (((rdI v_28.2.2.1.2.2.2.2.1.2.1 v_34).map (·.2)).bind fun v => ((((rdI v_28.2.2.1.2.2.2.2.1.2.1 v_34).map (·.2)).map (·.2)).map fun v => ((bitsI .xor .u64 IntKind.u64.max v_32), v.2)).map fun w => (v.1, w)).map fun w => (v.1, w)).bind fun v => stI v_28.2.2.1.2.2.2.2.1.2.1 v_34 v).map fun w => (w, v_28.2.2.1.2.2.2.2.1.2.2)).map fun w => (v_28.2.2.1.2.2.2.2.1.1, w)).map fun w => (w, v_28.2.2.1.2.2.2.2.2)).map fun w => (v_28.2.2.1.2.2.2.1, w)).map fun w => (v_28.2.2.1.2.2.1, w)).map fun w => (v_28.2.2.1.2.1, w)).map fun w => (v_28.2.2.1.1, w)).map fun w => (w, v_28.2.2.2)).map fun w => (v_28.2.1, w)).map fun w => (v_28.1, w)).bind fun v_35 =>
        (batch_Same (a_0.1, a_0.2.1, (a_0.2.2.1.1, a_0.2.2.1.2.1, a_0.2.2.1.2.2.1, a_0.2.2.1.2.2.2.1, (a_0.2.2.1.2.2.2.2.1.1, a_0.2.2.1.2.2.2.2.1.2.1, ()), ()), a_0.2.2.2.1, a_0.2.2.2.2.1, ()) r_7.1.1).bind fun r_36 =>
        guardR r_36.1.1 (some (a_0.1, a_0.2.1, (a_0.2.2.1.1, a_0.2.2.1.2.1, a_0.2.2.1.2.2.1, a_0.2.2.1.2.2.2.1, (a_0.2.2.1.2.2.2.2.1.1, a_0.2.2.1.2.2.2.2.1.2.1, ()), ()), a_0.2.2.2.1, a_0.2.2.2.2.1, ())) (0, 0, ([], [], 0, 0, (0, [], ()), ()), 0, [], ()) fun v_37 =>
        guardR r_36.1.1 (some v_35) (0, 0, ([], [], 0, 0, (0, [], ()), ()), 0, [], ()) fun v_38 =>
        guardR r_36.1.1 (batch_Same v_37 v_35) ((false, ()), ()) fun r_39 =>
        guardR r_36.1.1 (some ()) () fun _ =>
        guardR r_36.1.1 (some ()) () fun _ =>
        guardR r_36.1.1 (some ()) () fun _ =>
        let t103_41 : Bool := bif r_36.1.1 then (decide (r_39.1.1 = false)) else false
        guardR t103_41 law25_lives ((false, ()), ()) fun r_42 =>
        some (((bif t103_41 then r_42.1.1 else false), ()), ())
      else
      (batch_Same (a_0.1, a_0.2.1, (a_0.2.2.1.1, a_0.2.2.1.2.1, a_0.2.2.1.2.2.1, a_0.2.2.1.2.2.2.1, (a_0.2.2.1.2.2.2.2.1.1, a_0.2.2.1.2.2.2.2.1.2.1, ()), ()), a_0.2.2.2.1, a_0.2.2.2.2.1, ()) r_7.1.1).bind fun r_44 =>
      guardR r_44.1.1 (some (a_0.1, a_0.2.1, (a_0.2.2.1.1, a_0.2.2.1.2.1, a_0.2.2.1.2.2.1, a_0.2.2.1.2.2.2.1, (a_0.2.2.1.2.2.2.2.1.1, a_0.2.2.1.2.2.2.2.1.2.1, ()), ()), a_0.2.2.2.1, a_0.2.2.2.2.1, ())) (0, 0, ([], [], 0, 0, (0, [], ()), ()), 0, [], ()) fun v_45 =>
      guardR r_44.1.1 (some v_28) (0, 0, ([], [], 0, 0, (0, [], ()), ()), 0, [], ()) fun v_46 =>
      guardR r_44.1.1 (batch_Same v_45 v_28) ((false, ()), ()) fun r_47 =>
      guardR r_44.1.1 (some ()) () fun _ =>
      guardR r_44.1.1 (some ()) () fun _ =>
      guardR r_44.1.1 (some ()) () fun _ =>
      let t103_49 : Bool := bif r_44.1.1 then (decide (r_47.1.1 = false)) else false
      guardR t103_49 law25_lives ((false, ()), ()) fun r_50 =>
      some (((bif t103_49 then r_50.1.1 else false), ()), ())
    else
    bif (decide ((v_16.2.2.1.2.2.2.2.1.2.1.length : Int) > 0)) then
      (Option.map (fun _ => 0) (ckI 0 v_16.2.2.1.2.2.2.2.1.2.1.length)).bind fun v_54 =>
      ((((rdI v_16.2.2.1.2.2.2.2.1.2.1 v_54).map (·.2)).map (·.2)).map (·.1)).bind fun v_55 =>
      (Option.map (fun _ => 0) (ckI 0 v_16.2.2.1.2.2.2.2.1.2.1.length)).bind fun v_57 =>
      (((((((((((((rdI v_16.2.2.1.2.2.2.2.1.2.1 v_57).bind fun v => (((rdI v_16.2.2.1.2.2.2.2.1.2.1 v_57).map (·.2)).bind fun v => ((((rdI v_16.2.2.1.2.2.2.2.1.2.1 v_57).map (·.2)).map (·.2)).map fun v => ((bitsI .xor .u64 IntKind.u64.max v_55), v.2)).map fun w => (v.1, w)).map fun w => (v.1, w)).bind fun v => stI v_16.2.2.1.2.2.2.2.1.2.1 v_57 v).map fun w => (w, v_16.2.2.1.2.2.2.2.1.2.2)).map fun w => (v_16.2.2.1.2.2.2.2.1.1, w)).map fun w => (w, v_16.2.2.1.2.2.2.2.2)).map fun w => (v_16.2.2.1.2.2.2.1, w)).map fun w => (v_16.2.2.1.2.2.1, w)).map fun w => (v_16.2.2.1.2.1, w)).map fun w => (v_16.2.2.1.1, w)).map fun w => (w, v_16.2.2.2)).map fun w => (v_16.2.1, w)).map fun w => (v_16.1, w)).bind fun v_58 =>
      (batch_Same (a_0.1, a_0.2.1, (a_0.2.2.1.1, a_0.2.2.1.2.1, a_0.2.2.1.2.2.1, a_0.2.2.1.2.2.2.1, (a_0.2.2.1.2.2.2.2.1.1, a_0.2.2.1.2.2.2.2.1.2.1, ()), ()), a_0.2.2.2.1, a_0.2.2.2.2.1, ()) r_7.1.1).bind fun r_59 =>
      guardR r_59.1.1 (some (a_0.1, a_0.2.1, (a_0.2.2.1.1, a_0.2.2.1.2.1, a_0.2.2.1.2.2.1, a_0.2.2.1.2.2.2.1, (a_0.2.2.1.2.2.2.2.1.1, a_0.2.2.1.2.2.2.2.1.2.1, ()), ()), a_0.2.2.2.1, a_0.2.2.2.2.1, ())) (0, 0, ([], [], 0, 0, (0, [], ()), ()), 0, [], ()) fun v_60 =>
      guardR r_59.1.1 (some v_58) (0, 0, ([], [], 0, 0, (0, [], ()), ()), 0, [], ()) fun v_61 =>
      guardR r_59.1.1 (batch_Same v_60 v_58) ((false, ()), ()) fun r_62 =>
      guardR r_59.1.1 (some ()) () fun _ =>
      guardR r_59.1.1 (some ()) () fun _ =>
      guardR r_59.1.1 (some ()) () fun _ =>
      let t103_64 : Bool := bif r_59.1.1 then (decide (r_62.1.1 = false)) else false
      guardR t103_64 law25_lives ((false, ()), ()) fun r_65 =>
      some (((bif t103_64 then r_65.1.1 else false), ()), ())
    else
    (batch_Same (a_0.1, a_0.2.1, (a_0.2.2.1.1, a_0.2.2.1.2.1, a_0.2.2.1.2.2.1, a_0.2.2.1.2.2.2.1, (a_0.2.2.1.2.2.2.2.1.1, a_0.2.2.1.2.2.2.2.1.2.1, ()), ()), a_0.2.2.2.1, a_0.2.2.2.2.1, ()) r_7.1.1).bind fun r_67 =>
    guardR r_67.1.1 (some (a_0.1, a_0.2.1, (a_0.2.2.1.1, a_0.2.2.1.2.1, a_0.2.2.1.2.2.1, a_0.2.2.1.2.2.2.1, (a_0.2.2.1.2.2.2.2.1.1, a_0.2.2.1.2.2.2.2.1.2.1, ()), ()), a_0.2.2.2.1, a_0.2.2.2.2.1, ())) (0, 0, ([], [], 0, 0, (0, [], ()), ()), 0, [], ()) fun v_68 =>
    guardR r_67.1.1 (some v_16) (0, 0, ([], [], 0, 0, (0, [], ()), ()), 0, [], ()) fun v_69 =>
    guardR r_67.1.1 (batch_Same v_68 v_16) ((false, ()), ()) fun r_70 =>
    guardR r_67.1.1 (some ()) () fun _ =>
    guardR r_67.1.1 (some ()) () fun _ =>
    guardR r_67.1.1 (some ()) () fun _ =>
    let t103_72 : Bool := bif r_67.1.1 then (decide (r_70.1.1 = (!t51_20))) else false
    guardR t103_72 law25_lives ((false, ()), ()) fun r_73 =>
    some (((bif t103_72 then r_73.1.1 else false), ()), ())
  else
  bif (decide ((r_6.1.1.2.2.1.1.length : Int) > 0)) then
    (Option.map (fun _ => 0) (ckI 0 r_6.1.1.2.2.1.1.length)).bind fun v_77 =>
    ((rdI r_6.1.1.2.2.1.1 v_77).map (·.1)).bind fun v_78 =>
    (Option.map (fun _ => 0) (ckI 0 r_6.1.1.2.2.1.1.length)).bind fun v_81 =>
    (((((((rdI r_6.1.1.2.2.1.1 v_81).map fun v => ((IntKind.i64.wrap (1 - (minI (maxI v_78 0) 1))), v.2)).bind fun v => stI r_6.1.1.2.2.1.1 v_81 v).map fun w => (w, r_6.1.1.2.2.1.2)).map fun w => (w, r_6.1.1.2.2.2)).map fun w => (r_6.1.1.2.1, w)).map fun w => (r_6.1.1.1, w)).bind fun v_82 =>
    bif (decide ((v_82.2.2.1.2.2.2.2.1.2.1.length : Int) > 0)) then
      (Option.map (fun _ => 0) (ckI 0 v_82.2.2.1.2.2.2.2.1.2.1.length)).bind fun v_85 =>
      ((((rdI v_82.2.2.1.2.2.2.2.1.2.1 v_85).map (·.2)).map (·.2)).map (·.1)).bind fun v_86 =>
      (Option.map (fun _ => 0) (ckI 0 v_82.2.2.1.2.2.2.2.1.2.1.length)).bind fun v_88 =>
      (((((((((((((rdI v_82.2.2.1.2.2.2.2.1.2.1 v_88).bind fun v => (((rdI v_82.2.2.1.2.2.2.2.1.2.1 v_88).map (·.2)).bind fun v => ((((rdI v_82.2.2.1.2.2.2.2.1.2.1 v_88).map (·.2)).map (·.2)).map fun v => ((bitsI .xor .u64 IntKind.u64.max v_86), v.2)).map fun w => (v.1, w)).map fun w => (v.1, w)).bind fun v => stI v_82.2.2.1.2.2.2.2.1.2.1 v_88 v).map fun w => (w, v_82.2.2.1.2.2.2.2.1.2.2)).map fun w => (v_82.2.2.1.2.2.2.2.1.1, w)).map fun w => (w, v_82.2.2.1.2.2.2.2.2)).map fun w => (v_82.2.2.1.2.2.2.1, w)).map fun w => (v_82.2.2.1.2.2.1, w)).map fun w => (v_82.2.2.1.2.1, w)).map fun w => (v_82.2.2.1.1, w)).map fun w => (w, v_82.2.2.2)).map fun w => (v_82.2.1, w)).map fun w => (v_82.1, w)).bind fun v_89 =>
      (batch_Same (a_0.1, a_0.2.1, (a_0.2.2.1.1, a_0.2.2.1.2.1, a_0.2.2.1.2.2.1, a_0.2.2.1.2.2.2.1, (a_0.2.2.1.2.2.2.2.1.1, a_0.2.2.1.2.2.2.2.1.2.1, ()), ()), a_0.2.2.2.1, a_0.2.2.2.2.1, ()) r_7.1.1).bind fun r_90 =>
      guardR r_90.1.1 (some (a_0.1, a_0.2.1, (a_0.2.2.1.1, a_0.2.2.1.2.1, a_0.2.2.1.2.2.1, a_0.2.2.1.2.2.2.1, (a_0.2.2.1.2.2.2.2.1.1, a_0.2.2.1.2.2.2.2.1.2.1, ()), ()), a_0.2.2.2.1, a_0.2.2.2.2.1, ())) (0, 0, ([], [], 0, 0, (0, [], ()), ()), 0, [], ()) fun v_91 =>
      guardR r_90.1.1 (some v_89) (0, 0, ([], [], 0, 0, (0, [], ()), ()), 0, [], ()) fun v_92 =>
      guardR r_90.1.1 (batch_Same v_91 v_89) ((false, ()), ()) fun r_93 =>
      guardR r_90.1.1 (some ()) () fun _ =>
      guardR r_90.1.1 (some ()) () fun _ =>
      guardR r_90.1.1 (some ()) () fun _ =>
      let t103_95 : Bool := bif r_90.1.1 then (decide (r_93.1.1 = false)) else false
      guardR t103_95 law25_lives ((false, ()), ()) fun r_96 =>
      some (((bif t103_95 then r_96.1.1 else false), ()), ())
    else
    (batch_Same (a_0.1, a_0.2.1, (a_0.2.2.1.1, a_0.2.2.1.2.1, a_0.2.2.1.2.2.1, a_0.2.2.1.2.2.2.1, (a_0.2.2.1.2.2.2.2.1.1, a_0.2.2.1.2.2.2.2.1.2.1, ()), ()), a_0.2.2.2.1, a_0.2.2.2.2.1, ()) r_7.1.1).bind fun r_98 =>
    guardR r_98.1.1 (some (a_0.1, a_0.2.1, (a_0.2.2.1.1, a_0.2.2.1.2.1, a_0.2.2.1.2.2.1, a_0.2.2.1.2.2.2.1, (a_0.2.2.1.2.2.2.2.1.1, a_0.2.2.1.2.2.2.2.1.2.1, ()), ()), a_0.2.2.2.1, a_0.2.2.2.2.1, ())) (0, 0, ([], [], 0, 0, (0, [], ()), ()), 0, [], ()) fun v_99 =>
    guardR r_98.1.1 (some v_82) (0, 0, ([], [], 0, 0, (0, [], ()), ()), 0, [], ()) fun v_100 =>
    guardR r_98.1.1 (batch_Same v_99 v_82) ((false, ()), ()) fun r_101 =>
    guardR r_98.1.1 (some ()) () fun _ =>
    guardR r_98.1.1 (some ()) () fun _ =>
    guardR r_98.1.1 (some ()) () fun _ =>
    let t103_103 : Bool := bif r_98.1.1 then (decide (r_101.1.1 = false)) else false
    guardR t103_103 law25_lives ((false, ()), ()) fun r_104 =>
    some (((bif t103_103 then r_104.1.1 else false), ()), ())
  else
  bif (decide ((r_6.1.1.2.2.1.2.2.2.2.1.2.1.length : Int) > 0)) then
    (Option.map (fun _ => 0) (ckI 0 r_6.1.1.2.2.1.2.2.2.2.1.2.1.length)).bind fun v_108 =>
    ((((rdI r_6.1.1.2.2.1.2.2.2.2.1.2.1 v_108).map (·.2)).map (·.2)).map (·.1)).bind fun v_109 =>
    (Option.map (fun _ => 0) (ckI 0 r_6.1.1.2.2.1.2.2.2.2.1.2.1.length)).bind fun v_111 =>
    (((((((((((((rdI r_6.1.1.2.2.1.2.2.2.2.1.2.1 v_111).bind fun v => (((rdI r_6.1.1.2.2.1.2.2.2.2.1.2.1 v_111).map (·.2)).bind fun v => ((((rdI r_6.1.1.2.2.1.2.2.2.2.1.2.1 v_111).map (·.2)).map (·.2)).map fun v => ((bitsI .xor .u64 IntKind.u64.max v_109), v.2)).map fun w => (v.1, w)).map fun w => (v.1, w)).bind fun v => stI r_6.1.1.2.2.1.2.2.2.2.1.2.1 v_111 v).map fun w => (w, r_6.1.1.2.2.1.2.2.2.2.1.2.2)).map fun w => (r_6.1.1.2.2.1.2.2.2.2.1.1, w)).map fun w => (w, r_6.1.1.2.2.1.2.2.2.2.2)).map fun w => (r_6.1.1.2.2.1.2.2.2.1, w)).map fun w => (r_6.1.1.2.2.1.2.2.1, w)).map fun w => (r_6.1.1.2.2.1.2.1, w)).map fun w => (r_6.1.1.2.2.1.1, w)).map fun w => (w, r_6.1.1.2.2.2)).map fun w => (r_6.1.1.2.1, w)).map fun w => (r_6.1.1.1, w)).bind fun v_112 =>
    (batch_Same (a_0.1, a_0.2.1, (a_0.2.2.1.1, a_0.2.2.1.2.1, a_0.2.2.1.2.2.1, a_0.2.2.1.2.2.2.1, (a_0.2.2.1.2.2.2.2.1.1, a_0.2.2.1.2.2.2.2.1.2.1, ()), ()), a_0.2.2.2.1, a_0.2.2.2.2.1, ()) r_7.1.1).bind fun r_113 =>
    guardR r_113.1.1 (some (a_0.1, a_0.2.1, (a_0.2.2.1.1, a_0.2.2.1.2.1, a_0.2.2.1.2.2.1, a_0.2.2.1.2.2.2.1, (a_0.2.2.1.2.2.2.2.1.1, a_0.2.2.1.2.2.2.2.1.2.1, ()), ()), a_0.2.2.2.1, a_0.2.2.2.2.1, ())) (0, 0, ([], [], 0, 0, (0, [], ()), ()), 0, [], ()) fun v_114 =>
    guardR r_113.1.1 (some v_112) (0, 0, ([], [], 0, 0, (0, [], ()), ()), 0, [], ()) fun v_115 =>
    guardR r_113.1.1 (batch_Same v_114 v_112) ((false, ()), ()) fun r_116 =>
    guardR r_113.1.1 (some ()) () fun _ =>
    guardR r_113.1.1 (some ()) () fun _ =>
    guardR r_113.1.1 (some ()) () fun _ =>
    let t103_118 : Bool := bif r_113.1.1 then (decide (r_116.1.1 = false)) else false
    guardR t103_118 law25_lives ((false, ()), ()) fun r_119 =>
    some (((bif t103_118 then r_119.1.1 else false), ()), ())
  else
  (batch_Same (a_0.1, a_0.2.1, (a_0.2.2.1.1, a_0.2.2.1.2.1, a_0.2.2.1.2.2.1, a_0.2.2.1.2.2.2.1, (a_0.2.2.1.2.2.2.2.1.1, a_0.2.2.1.2.2.2.2.1.2.1, ()), ()), a_0.2.2.2.1, a_0.2.2.2.2.1, ()) r_7.1.1).bind fun r_121 =>
  guardR r_121.1.1 (some (a_0.1, a_0.2.1, (a_0.2.2.1.1, a_0.2.2.1.2.1, a_0.2.2.1.2.2.1, a_0.2.2.1.2.2.2.1, (a_0.2.2.1.2.2.2.2.1.1, a_0.2.2.1.2.2.2.2.1.2.1, ()), ()), a_0.2.2.2.1, a_0.2.2.2.2.1, ())) (0, 0, ([], [], 0, 0, (0, [], ()), ()), 0, [], ()) fun v_122 =>
  guardR r_121.1.1 (some r_6.1.1) (0, 0, ([], [], 0, 0, (0, [], ()), ()), 0, [], ()) fun v_123 =>
  guardR r_121.1.1 (batch_Same v_122 r_6.1.1) ((false, ()), ()) fun r_124 =>
  guardR r_121.1.1 (some ()) () fun _ =>
  guardR r_121.1.1 (some ()) () fun _ =>
  guardR r_121.1.1 (some ()) () fun _ =>
  let t103_126 : Bool := bif r_121.1.1 then (decide (r_124.1.1 = true)) else false
  guardR t103_126 law25_lives ((false, ()), ()) fun r_127 =>
  some (((bif t103_126 then r_127.1.1 else false), ()), ())

noncomputable def sg4 : Sig := ⟨[.val (.agg (.pair (.int .i64) (.pair (.int .i64) (.pair (.agg (.pair (.slice (.agg (.pair (.int .i64) (.pair (.int .u64) (.pair (.int .u64) .unit))))) (.pair (.slice (.agg (.pair (.int .i64) (.pair (.int .u64) (.pair (.int .u64) .unit))))) (.pair (.int .i64) (.pair (.int .i64) (.pair (.agg (.pair (.int .i64) (.pair (.slice (.agg (.pair (.int .i64) (.pair (.int .u64) (.pair (.int .u64) .unit))))) .unit))) .unit)))))) (.pair (.int .i64) (.pair (.slice (.int .i64)) .unit)))))), .val (.agg (.pair (.int .i64) (.pair (.int .i64) (.pair (.agg (.pair (.slice (.agg (.pair (.int .i64) (.pair (.int .u64) (.pair (.int .u64) .unit))))) (.pair (.slice (.agg (.pair (.int .i64) (.pair (.int .u64) (.pair (.int .u64) .unit))))) (.pair (.int .i64) (.pair (.int .i64) (.pair (.agg (.pair (.int .i64) (.pair (.slice (.agg (.pair (.int .i64) (.pair (.int .u64) (.pair (.int .u64) .unit))))) .unit))) .unit)))))) (.pair (.int .i64) (.pair (.slice (.int .i64)) .unit))))))], [.val .bool], []⟩
noncomputable def sm4 : CSem := mkSem sg4 fun x => law25_BatchCopies x.1 x.2.1
noncomputable def cf4 : Cfg := cf [(8, sem8), (9, sem9), (14, sem14), (15, sem15), (16, sem16)] 107 0 []

noncomputable def sem4 : CSem := sm4

noncomputable def sg43 : Sig := ⟨[.val (.slice (.int .u8))], [.ptr (.agg (.pair (.agg (.pair (.slice (.int .u8)) (.pair (.int .i64) (.pair .nilp .unit)))) .unit))], []⟩
noncomputable def sm43 : CSem := mkSem sg43 fun x => wire_Read x.1
noncomputable def cf43 : Cfg := cf [(63, sem63)] 8 0 []

noncomputable def sem43 : CSem := sm43

noncomputable def sg83 : Sig := ⟨[.obj (.agg (.pair (.slice (.int .u8)) (.pair (.int .i64) (.pair .nilp .unit)))), .val (.int .i64)], [.val (.slice (.int .u8)), .val .bool], [(.agg (.pair (.slice (.int .u8)) (.pair (.int .i64) (.pair .nilp .unit))))]⟩
noncomputable def sm83 : CSem := mkSem sg83 fun x => wire_cursor_take_1ca x.1 x.2.1
noncomputable def cf83 : Cfg := cf [] 48 1 []

noncomputable def sg83a : Sig := ⟨[.obj (.agg (.pair (.slice (.int .u8)) (.pair (.int .i64) (.pair (.ptr (.agg (.pair (.int .i64) (.pair (.int .i64) .unit)))) .unit)))), .val (.int .i64)], [.val (.slice (.int .u8)), .val .bool], [(.agg (.pair (.slice (.int .u8)) (.pair (.int .i64) (.pair (.ptr (.agg (.pair (.int .i64) (.pair (.int .i64) .unit)))) .unit))))]⟩
noncomputable def sm83a : CSem := mkSem sg83a fun x => wire_cursor_take_c4f x.1 x.2.1
noncomputable def cf83a : Cfg := cf [] 48 1 []

noncomputable def sem83 : CSem := orSem sm83 (sm83a)

noncomputable def sg84 : Sig := ⟨[.obj (.agg (.pair (.slice (.int .u8)) (.pair (.int .i64) (.pair .nilp .unit)))), .val (.int .i64), .val (.int .i64)], [], [(.agg (.pair (.slice (.int .u8)) (.pair (.int .i64) (.pair (.ptr (.agg (.pair (.int .i64) (.pair (.int .i64) .unit)))) .unit))))]⟩
noncomputable def sm84 : CSem := mkSem sg84 fun x => wire_cursor_fail_36a x.1 x.2.1 x.2.2.1
noncomputable def cf84 : Cfg := cf [] 22 1 []

noncomputable def sg84a : Sig := ⟨[.obj (.agg (.pair (.slice (.int .u8)) (.pair (.int .i64) (.pair (.ptr (.agg (.pair (.int .i64) (.pair (.int .i64) .unit)))) .unit)))), .val (.int .i64), .val (.int .i64)], [], [(.agg (.pair (.slice (.int .u8)) (.pair (.int .i64) (.pair (.ptr (.agg (.pair (.int .i64) (.pair (.int .i64) .unit)))) .unit))))]⟩
noncomputable def sm84a : CSem := mkSem sg84a fun x => wire_cursor_fail_ba6 x.1 x.2.1 x.2.2.1
noncomputable def cf84a : Cfg := cf [] 22 1 []

noncomputable def sem84 : CSem := orSem sm84 (sm84a)

noncomputable def sg64 : Sig := ⟨[.obj (.agg (.pair (.agg (.pair (.slice (.int .u8)) (.pair (.int .i64) (.pair .nilp .unit)))) .unit)), .val (.int .i64), .val (.int .i64)], [.val (.int .i64)], [(.agg (.pair (.agg (.pair (.slice (.int .u8)) (.pair (.int .i64) (.pair (.ptr (.agg (.pair (.int .i64) (.pair (.int .i64) .unit)))) .unit)))) .unit))]⟩
noncomputable def sm64 : CSem := mkSem sg64 fun x => wire_Reader_number_395 x.1 x.2.1 x.2.2.1
noncomputable def cf64 : Cfg := cf [(83, sem83), (84, sem84)] 61 1 [(0, ⟨[(0, .loc (objName 0) []), (2, .dat (.int .i64)), (7, .dat (.int .i64)), (10, .dat (.int .i64)), (35, .dat (.slice (.int .u8))), (36, .dat (.int .i64)), (37, .dat (.int .i64))], [((objName 0), (.agg (.pair (.agg (.pair (.slice (.int .u8)) (.pair (.int .i64) (.pair .nilp .unit)))) .unit)))]⟩)]

noncomputable def sg64a : Sig := ⟨[.obj (.agg (.pair (.agg (.pair (.slice (.int .u8)) (.pair (.int .i64) (.pair (.ptr (.agg (.pair (.int .i64) (.pair (.int .i64) .unit)))) .unit)))) .unit)), .val (.int .i64), .val (.int .i64)], [.val (.int .i64)], [(.agg (.pair (.agg (.pair (.slice (.int .u8)) (.pair (.int .i64) (.pair (.ptr (.agg (.pair (.int .i64) (.pair (.int .i64) .unit)))) .unit)))) .unit))]⟩
noncomputable def sm64a : CSem := mkSem sg64a fun x => wire_Reader_number_28a x.1 x.2.1 x.2.2.1
noncomputable def cf64a : Cfg := cf [(83, sem83), (84, sem84)] 61 1 [(0, ⟨[(0, .loc (objName 0) []), (2, .dat (.int .i64)), (7, .dat (.int .i64)), (10, .dat (.int .i64)), (35, .dat (.slice (.int .u8))), (36, .dat (.int .i64)), (37, .dat (.int .i64))], [((objName 0), (.agg (.pair (.agg (.pair (.slice (.int .u8)) (.pair (.int .i64) (.pair (.ptr (.agg (.pair (.int .i64) (.pair (.int .i64) .unit)))) .unit)))) .unit)))]⟩)]

noncomputable def sem64 : CSem := orSem sm64 (sm64a)

noncomputable def sg44 : Sig := ⟨[.obj (.agg (.pair (.agg (.pair (.slice (.int .u8)) (.pair (.int .i64) (.pair .nilp .unit)))) .unit)), .val (.int .i64)], [.val (.int .i64)], [(.agg (.pair (.agg (.pair (.slice (.int .u8)) (.pair (.int .i64) (.pair (.ptr (.agg (.pair (.int .i64) (.pair (.int .i64) .unit)))) .unit)))) .unit))]⟩
noncomputable def sm44 : CSem := mkSem sg44 fun x => wire_Reader_Byte_db0 x.1 x.2.1
noncomputable def cf44 : Cfg := cf [(64, sem64)] 8 1 []

noncomputable def sg44a : Sig := ⟨[.obj (.agg (.pair (.agg (.pair (.slice (.int .u8)) (.pair (.int .i64) (.pair (.ptr (.agg (.pair (.int .i64) (.pair (.int .i64) .unit)))) .unit)))) .unit)), .val (.int .i64)], [.val (.int .i64)], [(.agg (.pair (.agg (.pair (.slice (.int .u8)) (.pair (.int .i64) (.pair (.ptr (.agg (.pair (.int .i64) (.pair (.int .i64) .unit)))) .unit)))) .unit))]⟩
noncomputable def sm44a : CSem := mkSem sg44a fun x => wire_Reader_Byte_e57 x.1 x.2.1
noncomputable def cf44a : Cfg := cf [(64, sem64)] 8 1 []

noncomputable def sem44 : CSem := orSem sm44 (sm44a)

noncomputable def sg96 : Sig := ⟨[.obj (.agg (.pair (.agg (.pair (.slice (.int .u8)) (.pair (.int .i64) (.pair (.ptr (.agg (.pair (.int .i64) (.pair (.int .i64) .unit)))) .unit)))) .unit)), .val (.int .i64), .val (.int .i64)], [], [(.agg (.pair (.agg (.pair (.slice (.int .u8)) (.pair (.int .i64) (.pair (.ptr (.agg (.pair (.int .i64) (.pair (.int .i64) .unit)))) .unit)))) .unit))]⟩
noncomputable def sm96 : CSem := mkSem sg96 fun x => wire_Reader_back_28a x.1 x.2.1 x.2.2.1
noncomputable def cf96 : Cfg := cf [(84, sem84)] 23 1 []

noncomputable def sem96 : CSem := sm96

noncomputable def sg85 : Sig := ⟨[.obj (.agg (.pair (.agg (.pair (.slice (.int .u8)) (.pair (.int .i64) (.pair (.ptr (.agg (.pair (.int .i64) (.pair (.int .i64) .unit)))) .unit)))) .unit)), .val (.int .i64)], [.val (.int .i64)], [(.agg (.pair (.agg (.pair (.slice (.int .u8)) (.pair (.int .i64) (.pair (.ptr (.agg (.pair (.int .i64) (.pair (.int .i64) .unit)))) .unit)))) .unit))]⟩
noncomputable def sm85 : CSem := mkSem sg85 fun x => wire_Reader_count_e57 x.1 x.2.1
noncomputable def cf85 : Cfg := cf [(44, sem44), (96, sem96)] 21 1 []

noncomputable def sem85 : CSem := sm85

noncomputable def sg65 : Sig := ⟨[.obj (.agg (.pair (.agg (.pair (.slice (.int .u8)) (.pair (.int .i64) (.pair (.ptr (.agg (.pair (.int .i64) (.pair (.int .i64) .unit)))) .unit)))) .unit)), .val (.int .i64), .val (.int .i64)], [.own (.own (.int .i64))], [(.agg (.pair (.agg (.pair (.slice (.int .u8)) (.pair (.int .i64) (.pair (.ptr (.agg (.pair (.int .i64) (.pair (.int .i64) .unit)))) .unit)))) .unit))]⟩
noncomputable def sm65 : CSem := mkSem sg65 fun x => wire_Reader_Numbers_28a x.1 x.2.1 x.2.2.1
noncomputable def cf65 : Cfg := cf [(85, sem85), (44, sem44)] 30 1 [(0, ⟨[(0, .loc (objName 0) []), (2, .dat (.int .i64)), (7, .own (.int .i64) false), (13, .dat (.int .i64)), (14, .dat (.int .i64))], [((objName 0), (.agg (.pair (.agg (.pair (.slice (.int .u8)) (.pair (.int .i64) (.pair (.ptr (.agg (.pair (.int .i64) (.pair (.int .i64) .unit)))) .unit)))) .unit)))]⟩)]

noncomputable def sem65 : CSem := sm65

noncomputable def ag101 : List AK := [.val (.agg (.pair (.int .u64) (.pair (.int .u64) .unit))), .val (.agg (.pair (.int .u64) (.pair (.int .u64) .unit)))]
noncomputable def al101 : List Alt := [([.val (.agg (.pair (.int .u64) (.pair (.int .u64) .unit)))], [])]
noncomputable def sm101 : CSem := mkSemA ag101 al101 fun x => word_Or x.1 x.2.1
noncomputable def cf101 : Cfg := cf [] 16 0 []

noncomputable def sem101 : CSem := sm101

noncomputable def ag102 : List AK := [.val (.int .i64), .val (.int .u64), .val (.int .u64)]
noncomputable def al102 : List Alt := [([.val (.agg (.pair (.int .i64) (.pair (.int .u64) (.pair (.int .u64) .unit)))), .val (.int .i64)], [])]
noncomputable def sm102 : CSem := mkSemA ag102 al102 fun x => vec_New x.1 x.2.1 x.2.2.1
noncomputable def cf102 : Cfg := cf [(89, sem89), (74, sem74)] 24 0 []

noncomputable def sem102 : CSem := sm102

noncomputable def ag97 : List AK := [.obj (.agg (.pair (.agg (.pair (.slice (.int .u8)) (.pair (.int .i64) (.pair (.ptr (.agg (.pair (.int .i64) (.pair (.int .i64) .unit)))) .unit)))) .unit))]
noncomputable def al97 : List Alt := [([.val (.agg (.pair (.int .i64) (.pair (.int .u64) (.pair (.int .u64) .unit))))], [(.agg (.pair (.agg (.pair (.slice (.int .u8)) (.pair (.int .i64) (.pair (.ptr (.agg (.pair (.int .i64) (.pair (.int .i64) .unit)))) .unit)))) .unit))])]
noncomputable def sm97 : CSem := mkSemA ag97 al97 fun x => wire_Reader_Vec_59d x.1
noncomputable def cf97 : Cfg := cf [(44, sem44), (96, sem96), (92, sem92), (83, sem83), (99, sem99), (101, sem101), (102, sem102)] 75 1 [(0, ⟨[(0, .loc (objName 0) []), (2, .loc (nameOf 2 0) []), (3, .dat (.int .i64)), (4, .dat (.int .i64)), (7, .loc (nameOf 7 0) []), (47, .dat (.slice (.int .u8))), (48, .dat (.int .i64)), (49, .dat (.int .i64))], [((nameOf 2 0), (.agg (.pair (.int .i64) (.pair (.int .u64) (.pair (.int .u64) .unit))))), ((nameOf 7 0), (.agg (.pair (.int .u64) (.pair (.int .u64) .unit)))), ((objName 0), (.agg (.pair (.agg (.pair (.slice (.int .u8)) (.pair (.int .i64) (.pair (.ptr (.agg (.pair (.int .i64) (.pair (.int .i64) .unit)))) .unit)))) .unit)))]⟩)]

noncomputable def sem97 : CSem := sm97

noncomputable def sg86 : Sig := ⟨[.obj (.agg (.pair (.agg (.pair (.slice (.int .u8)) (.pair (.int .i64) (.pair (.ptr (.agg (.pair (.int .i64) (.pair (.int .i64) .unit)))) .unit)))) .unit)), .val (.int .i64)], [.own (.own (.agg (.pair (.int .i64) (.pair (.int .u64) (.pair (.int .u64) .unit)))))], [(.agg (.pair (.agg (.pair (.slice (.int .u8)) (.pair (.int .i64) (.pair (.ptr (.agg (.pair (.int .i64) (.pair (.int .i64) .unit)))) .unit)))) .unit))]⟩
noncomputable def sm86 : CSem := mkSem sg86 fun x => wire_Reader_Vecs_e57 x.1 x.2.1
noncomputable def cf86 : Cfg := cf [(85, sem85), (97, sem97)] 27 1 [(0, ⟨[(0, .loc (objName 0) []), (5, .own (.agg (.pair (.int .i64) (.pair (.int .u64) (.pair (.int .u64) .unit)))) false), (11, .dat (.int .i64)), (12, .dat (.int .i64))], [((objName 0), (.agg (.pair (.agg (.pair (.slice (.int .u8)) (.pair (.int .i64) (.pair (.ptr (.agg (.pair (.int .i64) (.pair (.int .i64) .unit)))) .unit)))) .unit)))]⟩)]

noncomputable def sem86 : CSem := sm86

noncomputable def sg87 : Sig := ⟨[.obj (.agg (.pair (.agg (.pair (.slice (.int .u8)) (.pair (.int .i64) (.pair (.ptr (.agg (.pair (.int .i64) (.pair (.int .i64) .unit)))) .unit)))) .unit)), .val (.int .i64)], [.val (.int .i64)], [(.agg (.pair (.agg (.pair (.slice (.int .u8)) (.pair (.int .i64) (.pair (.ptr (.agg (.pair (.int .i64) (.pair (.int .i64) .unit)))) .unit)))) .unit))]⟩
noncomputable def sm87 : CSem := mkSem sg87 fun x => wire_Reader_Two_e57 x.1 x.2.1
noncomputable def cf87 : Cfg := cf [(64, sem64)] 8 1 []

noncomputable def sem87 : CSem := sm87

noncomputable def ag66 : List AK := [.obj (.agg (.pair (.agg (.pair (.slice (.int .u8)) (.pair (.int .i64) (.pair (.ptr (.agg (.pair (.int .i64) (.pair (.int .i64) .unit)))) .unit)))) .unit))]
noncomputable def al66 : List Alt := [([.own (.agg (.pair (.own (.agg (.pair (.int .i64) (.pair (.int .u64) (.pair (.int .u64) .unit))))) (.pair (.own (.agg (.pair (.int .i64) (.pair (.int .u64) (.pair (.int .u64) .unit))))) (.pair (.int .i64) (.pair (.int .i64) (.pair (.agg (.pair (.int .i64) (.pair (.nils (.agg (.pair (.int .i64) (.pair (.int .u64) (.pair (.int .u64) .unit))))) .unit))) .unit))))))], [(.agg (.pair (.agg (.pair (.slice (.int .u8)) (.pair (.int .i64) (.pair (.ptr (.agg (.pair (.int .i64) (.pair (.int .i64) .unit)))) .unit)))) .unit))])]
noncomputable def sm66 : CSem := mkSemA ag66 al66 fun x => batch_readMatch_59d x.1
noncomputable def cf66 : Cfg := cf [(86, sem86), (87, sem87)] 12 1 []

noncomputable def sem66 : CSem := sm66

noncomputable def ag67 : List AK := [.obj (.agg (.pair (.agg (.pair (.slice (.int .u8)) (.pair (.int .i64) (.pair (.ptr (.agg (.pair (.int .i64) (.pair (.int .i64) .unit)))) .unit)))) .unit))]
noncomputable def al67 : List Alt := [([.own (.agg (.pair (.int .i64) (.pair (.own (.agg (.pair (.int .i64) (.pair (.int .u64) (.pair (.int .u64) .unit))))) .unit)))], [(.agg (.pair (.agg (.pair (.slice (.int .u8)) (.pair (.int .i64) (.pair (.ptr (.agg (.pair (.int .i64) (.pair (.int .i64) .unit)))) .unit)))) .unit))])]
noncomputable def sm67 : CSem := mkSemA ag67 al67 fun x => batch_readCall_59d x.1
noncomputable def cf67 : Cfg := cf [(44, sem44), (86, sem86)] 8 1 []

noncomputable def sem67 : CSem := sm67

noncomputable def ag45 : List AK := [.obj (.agg (.pair (.agg (.pair (.slice (.int .u8)) (.pair (.int .i64) (.pair (.ptr (.agg (.pair (.int .i64) (.pair (.int .i64) .unit)))) .unit)))) .unit))]
noncomputable def al45 : List Alt := [([.own (.agg (.pair (.int .i64) (.pair (.int .i64) (.pair (.agg (.pair (.own (.agg (.pair (.int .i64) (.pair (.int .u64) (.pair (.int .u64) .unit))))) (.pair (.own (.agg (.pair (.int .i64) (.pair (.int .u64) (.pair (.int .u64) .unit))))) (.pair (.int .i64) (.pair (.int .i64) (.pair (.agg (.pair (.int .i64) (.pair (.own (.agg (.pair (.int .i64) (.pair (.int .u64) (.pair (.int .u64) .unit))))) .unit))) .unit)))))) (.pair (.int .i64) (.pair (.own (.int .i64)) .unit))))))], [(.agg (.pair (.agg (.pair (.slice (.int .u8)) (.pair (.int .i64) (.pair (.ptr (.agg (.pair (.int .i64) (.pair (.int .i64) .unit)))) .unit)))) .unit))])]
noncomputable def sm45 : CSem := mkSemA ag45 al45 fun x => batch_read_59d x.1
noncomputable def cf45 : Cfg := cf [(44, sem44), (65, sem65), (66, sem66), (67, sem67)] 38 1 []

noncomputable def sem45 : CSem := sm45

noncomputable def sg46 : Sig := ⟨[.obj (.agg (.pair (.agg (.pair (.slice (.int .u8)) (.pair (.int .i64) (.pair (.ptr (.agg (.pair (.int .i64) (.pair (.int .i64) .unit)))) .unit)))) .unit))], [.val .bool], [(.agg (.pair (.agg (.pair (.slice (.int .u8)) (.pair (.int .i64) (.pair (.ptr (.agg (.pair (.int .i64) (.pair (.int .i64) .unit)))) .unit)))) .unit))]⟩
noncomputable def sm46 : CSem := mkSem sg46 fun x => wire_Reader_Bad_59d x.1
noncomputable def cf46 : Cfg := cf [] 13 1 []

noncomputable def sem46 : CSem := sm46

noncomputable def sg68 : Sig := ⟨[.obj (.agg (.pair (.agg (.pair (.slice (.int .u8)) (.pair (.int .i64) (.pair (.ptr (.agg (.pair (.int .i64) (.pair (.int .i64) .unit)))) .unit)))) .unit))], [.val (.int .i64)], [(.agg (.pair (.agg (.pair (.slice (.int .u8)) (.pair (.int .i64) (.pair (.ptr (.agg (.pair (.int .i64) (.pair (.int .i64) .unit)))) .unit)))) .unit))]⟩
noncomputable def sm68 : CSem := mkSem sg68 fun x => wire_Reader_Left_59d x.1
noncomputable def cf68 : Cfg := cf [] 17 1 []

noncomputable def sem68 : CSem := sm68

noncomputable def sg47 : Sig := ⟨[.obj (.agg (.pair (.agg (.pair (.slice (.int .u8)) (.pair (.int .i64) (.pair (.ptr (.agg (.pair (.int .i64) (.pair (.int .i64) .unit)))) .unit)))) .unit))], [.val (.alt 76 (.ptr (.agg (.pair (.int .i64) (.pair (.int .i64) .unit)))) .nili)], [(.agg (.pair (.agg (.pair (.slice (.int .u8)) (.pair (.int .i64) (.pair (.ptr (.agg (.pair (.int .i64) (.pair (.int .i64) .unit)))) .unit)))) .unit))]⟩
noncomputable def sm47 : CSem := mkSem sg47 fun x => wire_Reader_End_59d x.1
noncomputable def cf47 : Cfg := cf [(68, sem68)] 47 1 []

noncomputable def sem47 : CSem := sm47

noncomputable def sg20 : Sig := ⟨[.val (.slice (.int .u8))], [.own (.own (.agg (.pair (.int .i64) (.pair (.int .i64) (.pair (.agg (.pair (.slice (.agg (.pair (.int .i64) (.pair (.int .u64) (.pair (.int .u64) .unit))))) (.pair (.slice (.agg (.pair (.int .i64) (.pair (.int .u64) (.pair (.int .u64) .unit))))) (.pair (.int .i64) (.pair (.int .i64) (.pair (.agg (.pair (.int .i64) (.pair (.slice (.agg (.pair (.int .i64) (.pair (.int .u64) (.pair (.int .u64) .unit))))) .unit))) .unit)))))) (.pair (.int .i64) (.pair (.slice (.int .i64)) .unit))))))), .val (.alt 76 (.ptr (.agg (.pair (.int .i64) (.pair (.int .i64) .unit)))) .nili)], []⟩
noncomputable def sm20 : CSem := mkSem sg20 fun x => batch_Prefix x.1
noncomputable def cf20 : Cfg := cf [(43, sem43), (44, sem44), (45, sem45), (46, sem46), (47, sem47)] 25 0 [(0, ⟨[(4, .loc (nameOf 8 0) []), (5, .own (.agg (.pair (.int .i64) (.pair (.int .i64) (.pair (.agg (.pair (.slice (.agg (.pair (.int .i64) (.pair (.int .u64) (.pair (.int .u64) .unit))))) (.pair (.slice (.agg (.pair (.int .i64) (.pair (.int .u64) (.pair (.int .u64) .unit))))) (.pair (.int .i64) (.pair (.int .i64) (.pair (.agg (.pair (.int .i64) (.pair (.slice (.agg (.pair (.int .i64) (.pair (.int .u64) (.pair (.int .u64) .unit))))) .unit))) .unit)))))) (.pair (.int .i64) (.pair (.slice (.int .i64)) .unit)))))) false), (10, .dat (.int .i64)), (11, .dat (.int .i64))], [((nameOf 8 0), (.agg (.pair (.agg (.pair (.slice (.int .u8)) (.pair (.int .i64) (.pair (.ptr (.agg (.pair (.int .i64) (.pair (.int .i64) .unit)))) .unit)))) .unit)))]⟩)]

noncomputable def sem20 : CSem := sm20

noncomputable def sg17 : Sig := ⟨[.val (.slice (.int .u8))], [.own (.own (.agg (.pair (.int .i64) (.pair (.int .i64) (.pair (.agg (.pair (.slice (.agg (.pair (.int .i64) (.pair (.int .u64) (.pair (.int .u64) .unit))))) (.pair (.slice (.agg (.pair (.int .i64) (.pair (.int .u64) (.pair (.int .u64) .unit))))) (.pair (.int .i64) (.pair (.int .i64) (.pair (.agg (.pair (.int .i64) (.pair (.slice (.agg (.pair (.int .i64) (.pair (.int .u64) (.pair (.int .u64) .unit))))) .unit))) .unit)))))) (.pair (.int .i64) (.pair (.slice (.int .i64)) .unit))))))), .val (.int .i64), .val (.alt 76 (.ptr (.agg (.pair (.int .i64) (.pair (.int .i64) .unit)))) .nili)], []⟩
noncomputable def sm17 : CSem := mkSem sg17 fun x => batch_Decode x.1
noncomputable def cf17 : Cfg := cf [(20, sem20)] 20 0 []

noncomputable def sem17 : CSem := sm17

noncomputable def ag78 : List AK := [.val (.agg (.pair (.slice (.int .u8)) (.pair (.int .i64) (.pair (.int .i64) (.pair (.int .i64) .unit))))), .val (.int .i64), .val (.int .i64)]
noncomputable def al78 : List Alt := [([.val (.agg (.pair (.slice (.int .u8)) (.pair (.int .i64) (.pair (.int .i64) (.pair (.int .i64) .unit)))))], [])]
noncomputable def sm78 : CSem := mkSemA ag78 al78 fun x => ref07_fail x.1 x.2.1 x.2.2.1
noncomputable def cf78 : Cfg := cf [] 19 0 []

noncomputable def sem78 : CSem := sm78

noncomputable def sg80 : Sig := ⟨[.val (.slice (.int .u8))], [.own (.own .bool)], []⟩
noncomputable def sm80 : CSem := mkSem sg80 fun x => ref03_Bits x.1
noncomputable def cf80 : Cfg := cf [] 35 0 [(2, ⟨[(0, .dat (.slice (.int .u8))), (3, .own .bool false), (4, .dat (.int .i64)), (5, .dat (.int .i64)), (6, .dat (.int .i64))], []⟩), (0, ⟨[(0, .dat (.slice (.int .u8))), (3, .own .bool false), (4, .dat (.int .i64))], []⟩)]

noncomputable def sem80 : CSem := sm80

noncomputable def sg100 : Sig := ⟨[.val (.agg (.arr 128 .bool))], [.val (.int .u64), .val (.int .u64)], []⟩
noncomputable def sm100 : CSem := mkSem sg100 fun x => ref01_Halves x.1
noncomputable def cf100 : Cfg := cf [] 28 0 [(0, ⟨[(1, .loc (nameOf 1 0) []), (4, .dat (.int .u64)), (5, .dat (.int .u64)), (6, .dat (.int .i64))], [((nameOf 1 0), (.agg (.arr 128 .bool)))]⟩)]

noncomputable def sem100 : CSem := sm100

noncomputable def ag94 : List AK := [.val (.slice .bool)]
noncomputable def al94 : List Alt := [([.val (.agg (.pair (.int .i64) (.pair (.int .u64) (.pair (.int .u64) .unit))))], [])]
noncomputable def sm94 : CSem := mkSemA ag94 al94 fun x => ref02_Of x.1
noncomputable def cf94 : Cfg := cf [(100, sem100)] 33 0 [(0, ⟨[(0, .dat (.slice .bool)), (2, .loc (nameOf 2 0) []), (3, .loc (nameOf 3 0) []), (4, .dat (.int .i64))], [((nameOf 2 0), (.agg (.pair (.int .i64) (.pair (.int .u64) (.pair (.int .u64) .unit))))), ((nameOf 3 0), (.agg (.arr 128 .bool)))]⟩)]

noncomputable def sem94 : CSem := sm94

noncomputable def ag79 : List AK := [.val (.slice .bool)]
noncomputable def al79 : List Alt := [([.val (.agg (.pair (.int .i64) (.pair (.int .u64) (.pair (.int .u64) .unit))))], [])]
noncomputable def sm79 : CSem := mkSemA ag79 al79 fun x => ref03_Vec x.1
noncomputable def cf79 : Cfg := cf [(94, sem94)] 21 0 [(0, ⟨[(0, .dat (.slice .bool)), (2, .loc (nameOf 2 0) []), (3, .own .bool false), (4, .dat (.int .i64))], [((nameOf 2 0), (.agg (.pair (.int .i64) (.pair (.int .u64) (.pair (.int .u64) .unit)))))]⟩)]

noncomputable def sem79 : CSem := sm79

noncomputable def ag60 : List AK := [.val (.agg (.pair (.slice (.int .u8)) (.pair (.int .i64) (.pair (.int .i64) (.pair (.int .i64) .unit))))), .val (.int .i64), .val (.int .i64)]
noncomputable def al60 : List Alt := [([.val (.agg (.pair (.slice (.int .u8)) (.pair (.int .i64) (.pair (.int .i64) (.pair (.int .i64) .unit))))), .val (.int .i64)], [])]
noncomputable def sm60 : CSem := mkSemA ag60 al60 fun x => ref07_Take x.1 x.2.1 x.2.2.1
noncomputable def cf60 : Cfg := cf [(78, sem78), (80, sem80), (79, sem79)] 51 0 []

noncomputable def sem60 : CSem := sm60

noncomputable def ag81 : List AK := [.val (.agg (.pair (.slice (.int .u8)) (.pair (.int .i64) (.pair (.int .i64) (.pair (.int .i64) .unit))))), .val (.int .i64)]
noncomputable def al81 : List Alt := [([.val (.agg (.pair (.slice (.int .u8)) (.pair (.int .i64) (.pair (.int .i64) (.pair (.int .i64) .unit))))), .val (.int .i64)], [])]
noncomputable def sm81 : CSem := mkSemA ag81 al81 fun x => ref07_Count x.1 x.2.1
noncomputable def cf81 : Cfg := cf [(60, sem60), (78, sem78)] 31 0 []

noncomputable def sem81 : CSem := sm81

noncomputable def ag95 : List AK := [.val (.agg (.pair (.slice (.int .u8)) (.pair (.int .i64) (.pair (.int .i64) (.pair (.int .i64) .unit)))))]
noncomputable def al95 : List Alt := [([.val (.agg (.pair (.slice (.int .u8)) (.pair (.int .i64) (.pair (.int .i64) (.pair (.int .i64) .unit))))), .val (.agg (.pair (.int .i64) (.pair (.int .u64) (.pair (.int .u64) .unit))))], [])]
noncomputable def sm95 : CSem := mkSemA ag95 al95 fun x => ref07_TakeVec x.1
noncomputable def cf95 : Cfg := cf [(60, sem60), (78, sem78), (80, sem80), (79, sem79)] 88 0 [(0, ⟨[(1, .loc (nameOf 1 0) []), (2, .loc (nameOf 2 0) []), (3, .loc (nameOf 3 0) []), (4, .loc (nameOf 4 0) []), (5, .dat (.int .i64)), (6, .dat (.int .i64)), (7, .own .bool false), (8, .dat (.int .i64))], [((nameOf 1 0), (.agg (.pair (.slice (.int .u8)) (.pair (.int .i64) (.pair (.int .i64) (.pair (.int .i64) .unit)))))), ((nameOf 2 0), (.agg (.pair (.nils (.int .u8)) (.pair (.int .i64) (.pair (.int .i64) (.pair (.int .i64) .unit)))))), ((nameOf 3 0), (.agg (.pair (.int .i64) (.pair (.int .u64) (.pair (.int .u64) .unit))))), ((nameOf 4 0), (.agg (.pair (.slice (.int .u8)) (.pair (.int .i64) (.pair (.int .i64) (.pair (.int .i64) .unit))))))]⟩)]

noncomputable def sem95 : CSem := sm95

noncomputable def ag82 : List AK := [.val (.agg (.pair (.slice (.int .u8)) (.pair (.int .i64) (.pair (.int .i64) (.pair (.int .i64) .unit))))), .val (.int .i64)]
noncomputable def al82 : List Alt := [([.val (.agg (.pair (.slice (.int .u8)) (.pair (.int .i64) (.pair (.int .i64) (.pair (.int .i64) .unit))))), .own (.own (.agg (.pair (.int .i64) (.pair (.int .u64) (.pair (.int .u64) .unit)))))], [])]
noncomputable def sm82 : CSem := mkSemA ag82 al82 fun x => ref25_takeVecs x.1 x.2.1
noncomputable def cf82 : Cfg := cf [(81, sem81), (95, sem95)] 37 0 [(0, ⟨[(2, .loc (nameOf 2 0) []), (4, .loc (nameOf 4 0) []), (6, .dat (.int .i64)), (7, .own (.agg (.pair (.int .i64) (.pair (.int .u64) (.pair (.int .u64) .unit)))) false), (8, .dat (.int .i64))], [((nameOf 2 0), (.agg (.pair (.slice (.int .u8)) (.pair (.int .i64) (.pair (.int .i64) (.pair (.int .i64) .unit)))))), ((nameOf 4 0), (.agg (.pair (.nils (.int .u8)) (.pair (.int .i64) (.pair (.int .i64) (.pair (.int .i64) .unit))))))]⟩)]

noncomputable def sem82 : CSem := sm82

noncomputable def ag61 : List AK := [.val (.agg (.pair (.slice (.int .u8)) (.pair (.int .i64) (.pair (.int .i64) (.pair (.int .i64) .unit)))))]
noncomputable def al61 : List Alt := [([.val (.agg (.pair (.slice (.int .u8)) (.pair (.int .i64) (.pair (.int .i64) (.pair (.int .i64) .unit))))), .val (.agg (.pair (.int .i64) (.pair (.int .i64) (.pair (.agg (.pair (.slice (.agg (.pair (.int .i64) (.pair (.int .u64) (.pair (.int .u64) .unit))))) (.pair (.slice (.agg (.pair (.int .i64) (.pair (.int .u64) (.pair (.int .u64) .unit))))) (.pair (.int .i64) (.pair (.int .i64) (.pair (.agg (.pair (.int .i64) (.pair (.slice (.agg (.pair (.int .i64) (.pair (.int .u64) (.pair (.int .u64) .unit))))) .unit))) .unit)))))) (.pair (.int .i64) (.pair (.slice (.int .i64)) .unit))))))], [])]
noncomputable def sm61 : CSem := mkSemA ag61 al61 fun x => ref25_take x.1
noncomputable def cf61 : Cfg := cf [(60, sem60), (81, sem81), (82, sem82)] 106 0 [(0, ⟨[(1, .loc (nameOf 1 0) []), (2, .loc (nameOf 2 0) []), (3, .loc (nameOf 3 0) []), (5, .loc (nameOf 5 0) []), (6, .dat (.int .i64)), (7, .dat (.int .i64))], [((nameOf 1 0), (.agg (.pair (.slice (.int .u8)) (.pair (.int .i64) (.pair (.int .i64) (.pair (.int .i64) .unit)))))), ((nameOf 2 0), (.agg (.pair (.nils (.int .u8)) (.pair (.int .i64) (.pair (.int .i64) (.pair (.int .i64) .unit)))))), ((nameOf 3 0), (.agg (.pair (.int .i64) (.pair (.int .i64) (.pair (.agg (.pair (.nils (.agg (.pair (.int .i64) (.pair (.int .u64) (.pair (.int .u64) .unit))))) (.pair (.nils (.agg (.pair (.int .i64) (.pair (.int .u64) (.pair (.int .u64) .unit))))) (.pair (.int .i64) (.pair (.int .i64) (.pair (.agg (.pair (.int .i64) (.pair (.nils (.agg (.pair (.int .i64) (.pair (.int .u64) (.pair (.int .u64) .unit))))) .unit))) .unit)))))) (.pair (.int .i64) (.pair (.nils (.int .i64)) .unit))))))), ((nameOf 5 0), (.agg (.pair (.int .i64) (.pair (.int .i64) (.pair (.agg (.pair (.nils (.agg (.pair (.int .i64) (.pair (.int .u64) (.pair (.int .u64) .unit))))) (.pair (.nils (.agg (.pair (.int .i64) (.pair (.int .u64) (.pair (.int .u64) .unit))))) (.pair (.int .i64) (.pair (.int .i64) (.pair (.agg (.pair (.int .i64) (.pair (.nils (.agg (.pair (.int .i64) (.pair (.int .u64) (.pair (.int .u64) .unit))))) .unit))) .unit)))))) (.pair (.int .i64) (.pair (.own (.int .i64)) .unit)))))))]⟩)]

noncomputable def sem61 : CSem := sm61

noncomputable def sg62 : Sig := ⟨[.val (.agg (.pair (.slice (.int .u8)) (.pair (.int .i64) (.pair (.int .i64) (.pair (.int .i64) .unit)))))], [.val (.int .i64), .val (.int .i64)], []⟩
noncomputable def sm62 : CSem := mkSem sg62 fun x => ref07_End x.1
noncomputable def cf62 : Cfg := cf [] 17 0 []

noncomputable def sem62 : CSem := sm62

noncomputable def sg42 : Sig := ⟨[.val (.slice (.int .u8))], [.own (.own (.agg (.pair (.int .i64) (.pair (.int .i64) (.pair (.agg (.pair (.slice (.agg (.pair (.int .i64) (.pair (.int .u64) (.pair (.int .u64) .unit))))) (.pair (.slice (.agg (.pair (.int .i64) (.pair (.int .u64) (.pair (.int .u64) .unit))))) (.pair (.int .i64) (.pair (.int .i64) (.pair (.agg (.pair (.int .i64) (.pair (.slice (.agg (.pair (.int .i64) (.pair (.int .u64) (.pair (.int .u64) .unit))))) .unit))) .unit)))))) (.pair (.int .i64) (.pair (.slice (.int .i64)) .unit))))))), .val (.int .i64), .val (.int .i64)], []⟩
noncomputable def sm42 : CSem := mkSem sg42 fun x => ref25_Prefix x.1
noncomputable def cf42 : Cfg := cf [(60, sem60), (61, sem61), (62, sem62)] 49 0 [(0, ⟨[(5, .loc (nameOf 5 0) []), (6, .dat (.int .i64)), (7, .own (.agg (.pair (.int .i64) (.pair (.int .i64) (.pair (.agg (.pair (.slice (.agg (.pair (.int .i64) (.pair (.int .u64) (.pair (.int .u64) .unit))))) (.pair (.slice (.agg (.pair (.int .i64) (.pair (.int .u64) (.pair (.int .u64) .unit))))) (.pair (.int .i64) (.pair (.int .i64) (.pair (.agg (.pair (.int .i64) (.pair (.slice (.agg (.pair (.int .i64) (.pair (.int .u64) (.pair (.int .u64) .unit))))) .unit))) .unit)))))) (.pair (.int .i64) (.pair (.slice (.int .i64)) .unit)))))) false), (8, .dat (.int .i64))], [((nameOf 5 0), (.agg (.pair (.slice (.int .u8)) (.pair (.int .i64) (.pair (.int .i64) (.pair (.int .i64) .unit))))))]⟩)]

noncomputable def sem42 : CSem := sm42

noncomputable def sg18 : Sig := ⟨[.val (.slice (.int .u8))], [.own (.own (.agg (.pair (.int .i64) (.pair (.int .i64) (.pair (.agg (.pair (.slice (.agg (.pair (.int .i64) (.pair (.int .u64) (.pair (.int .u64) .unit))))) (.pair (.slice (.agg (.pair (.int .i64) (.pair (.int .u64) (.pair (.int .u64) .unit))))) (.pair (.int .i64) (.pair (.int .i64) (.pair (.agg (.pair (.int .i64) (.pair (.slice (.agg (.pair (.int .i64) (.pair (.int .u64) (.pair (.int .u64) .unit))))) .unit))) .unit)))))) (.pair (.int .i64) (.pair (.slice (.int .i64)) .unit))))))), .val (.int .i64), .val (.int .i64), .val (.int .i64)], []⟩
noncomputable def sm18 : CSem := mkSem sg18 fun x => ref25_Decode x.1
noncomputable def cf18 : Cfg := cf [(42, sem42)] 24 0 []

noncomputable def sem18 : CSem := sm18

noncomputable def sg19 : Sig := ⟨[.val (.alt 76 (.ptr (.agg (.pair (.int .i64) (.pair (.int .i64) .unit)))) .nili)], [.val (.int .i64), .val (.int .i64)], []⟩
noncomputable def sm19 : CSem := mkSem sg19 fun x => wire_Why_8d8 x.1
noncomputable def cf19 : Cfg := cf [] 27 0 []

noncomputable def sem19 : CSem := sm19

/-! ### shunter/shunterlaw25.BatchReads -/
noncomputable def law25_BatchReads_s2 (l_3_2 : List (Int × Int × ((List (Int × Int × Int × Unit)) × (List (Int × Int × Int × Unit)) × Int × Int × (Int × (List (Int × Int × Int × Unit)) × Unit) × Unit) × Int × (List Int) × Unit)) (want_6_2 : List (Int × Int × ((List (Int × Int × Int × Unit)) × (List (Int × Int × Int × Unit)) × Int × Int × (Int × (List (Int × Int × Int × Unit)) × Unit) × Unit) × Int × (List Int) × Unit)) (i_17_2 : Int) : Option ((((List (Int × Int × ((List (Int × Int × Int × Unit)) × (List (Int × Int × Int × Unit)) × Int × Int × (Int × (List (Int × Int × Int × Unit)) × Unit) × Unit) × Int × (List Int) × Unit)) × (List (Int × Int × ((List (Int × Int × Int × Unit)) × (List (Int × Int × Int × Unit)) × Int × Int × (Int × (List (Int × Int × Int × Unit)) × Unit) × Unit) × Int × (List Int) × Unit)) × Int × Unit) × (Unit)) ⊕ ((Bool × Unit) × (Unit))) :=
  bif (decide (i_17_2 < (l_3_2.length : Int))) then
    (Option.map (fun _ => i_17_2) (ckI i_17_2 l_3_2.length)).bind fun v_35 =>
    (rdI l_3_2 v_35).bind fun v_36 =>
    (Option.map (fun _ => i_17_2) (ckI i_17_2 want_6_2.length)).bind fun v_37 =>
    (rdI want_6_2 v_37).bind fun v_38 =>
    (ref25_Same v_36 v_38).bind fun r_39 =>
    bif !r_39.1.1 then
      some (.inr ((false, ()), ()))
    else
    some (.inl ((l_3_2, want_6_2, (IntKind.i64.wrap (i_17_2 + 1)), ()), ()))
  else
  (law25_lives.bind fun r_41 =>
  some ((r_41.1.1, ()), ())).map .inr
noncomputable def law25_BatchReads_s0 (l_3_0 : List (Int × Int × ((List (Int × Int × Int × Unit)) × (List (Int × Int × Int × Unit)) × Int × Int × (Int × (List (Int × Int × Int × Unit)) × Unit) × Unit) × Int × (List Int) × Unit)) (want_6_0 : List (Int × Int × ((List (Int × Int × Int × Unit)) × (List (Int × Int × Int × Unit)) × Int × Int × (Int × (List (Int × Int × Int × Unit)) × Unit) × Unit) × Int × (List Int) × Unit)) (p_12_0 : List (Int × Int × ((List (Int × Int × Int × Unit)) × (List (Int × Int × Int × Unit)) × Int × Int × (Int × (List (Int × Int × Int × Unit)) × Unit) × Unit) × Int × (List Int) × Unit)) (i_16_0 : Int) : Option ((((List (Int × Int × ((List (Int × Int × Int × Unit)) × (List (Int × Int × Int × Unit)) × Int × Int × (Int × (List (Int × Int × Int × Unit)) × Unit) × Unit) × Int × (List Int) × Unit)) × (List (Int × Int × ((List (Int × Int × Int × Unit)) × (List (Int × Int × Int × Unit)) × Int × Int × (Int × (List (Int × Int × Int × Unit)) × Unit) × Unit) × Int × (List Int) × Unit)) × (List (Int × Int × ((List (Int × Int × Int × Unit)) × (List (Int × Int × Int × Unit)) × Int × Int × (Int × (List (Int × Int × Int × Unit)) × Unit) × Unit) × Int × (List Int) × Unit)) × Int × Unit) × (Unit)) ⊕ ((Bool × Unit) × (Unit))) :=
  bif (decide (i_16_0 < (want_6_0.length : Int))) then
    (Option.map (fun _ => i_16_0) (ckI i_16_0 p_12_0.length)).bind fun v_27 =>
    (rdI p_12_0 v_27).bind fun v_28 =>
    (Option.map (fun _ => i_16_0) (ckI i_16_0 want_6_0.length)).bind fun v_29 =>
    (rdI want_6_0 v_29).bind fun v_30 =>
    (ref25_Same v_28 v_30).bind fun r_31 =>
    bif !r_31.1.1 then
      some (.inr ((false, ()), ()))
    else
    some (.inl ((l_3_0, want_6_0, p_12_0, (IntKind.i64.wrap (i_16_0 + 1)), ()), ()))
  else
  (loopR (fun (z : ((List (Int × Int × ((List (Int × Int × Int × Unit)) × (List (Int × Int × Int × Unit)) × Int × Int × (Int × (List (Int × Int × Int × Unit)) × Unit) × Unit) × Int × (List Int) × Unit)) × (List (Int × Int × ((List (Int × Int × Int × Unit)) × (List (Int × Int × Int × Unit)) × Int × Int × (Int × (List (Int × Int × Int × Unit)) × Unit) × Unit) × Int × (List Int) × Unit)) × Int × Unit) × (Unit)) => law25_BatchReads_s2 z.1.1 z.1.2.1 z.1.2.2.1) ((l_3_0, want_6_0, 0, ()), ())).map .inr
noncomputable def law25_BatchReads (b_0 : List Int) : Option ((Bool × Unit) × (Unit)) :=
  bif (decide ((b_0.length : Int) > 6000)) then
    law25_lives.bind fun r_3 =>
    some ((r_3.1.1, ()), ())
  else
  (batch_Decode b_0).bind fun r_4 =>
  (ref25_Decode b_0).bind fun r_5 =>
  (wire_Why_8d8 r_4.1.2.2.1).bind fun r_6 =>
  (batch_Prefix b_0).bind fun r_7 =>
  (wire_Why_8d8 r_7.1.2.1).bind fun r_8 =>
  let t52_9 : Bool := !decide (r_6.1.1 = r_5.1.2.2.1)
  guardR (!t52_9) (some ()) () fun _ =>
  guardR (!t52_9) (some ()) () fun _ =>
  guardR (!t52_9) (some (!decide (r_6.1.2.1 = r_5.1.2.2.2.1))) false fun v_10 =>
  let t57_11 : Bool := bif t52_9 then true else v_10
  guardR (!t57_11) (some ()) () fun _ =>
  guardR (!t57_11) (some ()) () fun _ =>
  guardR (!t57_11) (some (!decide (r_4.1.2.1 = r_5.1.2.1))) false fun v_12 =>
  let t62_13 : Bool := bif t57_11 then true else v_12
  guardR (!t62_13) (some ()) () fun _ =>
  guardR (!t62_13) (some (r_4.1.1.length : Int)) 0 fun v_14 =>
  guardR (!t62_13) (some ()) () fun _ =>
  guardR (!t62_13) (some (r_5.1.1.length : Int)) 0 fun v_15 =>
  guardR (!t62_13) (some (!decide (v_14 = v_15))) false fun v_16 =>
  let t69_17 : Bool := bif t62_13 then true else v_16
  guardR (!t69_17) (some ()) () fun _ =>
  guardR (!t69_17) (some (r_7.1.1.length : Int)) 0 fun v_18 =>
  guardR (!t69_17) (some ()) () fun _ =>
  guardR (!t69_17) (some (!decide (v_18 = r_5.1.2.1))) false fun v_19 =>
  let t75_20 : Bool := bif t69_17 then true else v_19
  guardR (!t75_20) (some ()) () fun _ =>
  guardR (!t75_20) (some ()) () fun _ =>
  guardR (!t75_20) (some (!decide (r_8.1.1 = r_5.1.2.2.1))) false fun v_21 =>
  let t80_22 : Bool := bif t75_20 then true else v_21
  guardR (!t80_22) (some ()) () fun _ =>
  guardR (!t80_22) (some ()) () fun _ =>
  guardR (!t80_22) (some (!decide (r_8.1.2.1 = r_5.1.2.2.2.1))) false fun v_23 =>
  bif (bif t80_22 then true else v_23) then
    some ((false, ()), ())
  else
  loopR (fun (z : ((List (Int × Int × ((List (Int × Int × Int × Unit)) × (List (Int × Int × Int × Unit)) × Int × Int × (Int × (List (Int × Int × Int × Unit)) × Unit) × Unit) × Int × (List Int) × Unit)) × (List (Int × Int × ((List (Int × Int × Int × Unit)) × (List (Int × Int × Int × Unit)) × Int × Int × (Int × (List (Int × Int × Int × Unit)) × Unit) × Unit) × Int × (List Int) × Unit)) × (List (Int × Int × ((List (Int × Int × Int × Unit)) × (List (Int × Int × Int × Unit)) × Int × Int × (Int × (List (Int × Int × Int × Unit)) × Unit) × Unit) × Int × (List Int) × Unit)) × Int × Unit) × (Unit)) => law25_BatchReads_s0 z.1.1 z.1.2.1 z.1.2.2.1 z.1.2.2.2.1) ((r_4.1.1, r_5.1.1, r_7.1.1, 0, ()), ())

noncomputable def sg5 : Sig := ⟨[.val (.slice (.int .u8))], [.val .bool], []⟩
noncomputable def sm5 : CSem := mkSem sg5 fun x => law25_BatchReads x.1
noncomputable def cf5 : Cfg := cf [(9, sem9), (17, sem17), (18, sem18), (19, sem19), (20, sem20), (15, sem15)] 119 0 [(2, ⟨[(3, .own (.agg (.pair (.int .i64) (.pair (.int .i64) (.pair (.agg (.pair (.slice (.agg (.pair (.int .i64) (.pair (.int .u64) (.pair (.int .u64) .unit))))) (.pair (.slice (.agg (.pair (.int .i64) (.pair (.int .u64) (.pair (.int .u64) .unit))))) (.pair (.int .i64) (.pair (.int .i64) (.pair (.agg (.pair (.int .i64) (.pair (.slice (.agg (.pair (.int .i64) (.pair (.int .u64) (.pair (.int .u64) .unit))))) .unit))) .unit)))))) (.pair (.int .i64) (.pair (.slice (.int .i64)) .unit)))))) false), (6, .own (.agg (.pair (.int .i64) (.pair (.int .i64) (.pair (.agg (.pair (.slice (.agg (.pair (.int .i64) (.pair (.int .u64) (.pair (.int .u64) .unit))))) (.pair (.slice (.agg (.pair (.int .i64) (.pair (.int .u64) (.pair (.int .u64) .unit))))) (.pair (.int .i64) (.pair (.int .i64) (.pair (.agg (.pair (.int .i64) (.pair (.slice (.agg (.pair (.int .i64) (.pair (.int .u64) (.pair (.int .u64) .unit))))) .unit))) .unit)))))) (.pair (.int .i64) (.pair (.slice (.int .i64)) .unit)))))) false), (17, .dat (.int .i64))], []⟩), (0, ⟨[(3, .own (.agg (.pair (.int .i64) (.pair (.int .i64) (.pair (.agg (.pair (.slice (.agg (.pair (.int .i64) (.pair (.int .u64) (.pair (.int .u64) .unit))))) (.pair (.slice (.agg (.pair (.int .i64) (.pair (.int .u64) (.pair (.int .u64) .unit))))) (.pair (.int .i64) (.pair (.int .i64) (.pair (.agg (.pair (.int .i64) (.pair (.slice (.agg (.pair (.int .i64) (.pair (.int .u64) (.pair (.int .u64) .unit))))) .unit))) .unit)))))) (.pair (.int .i64) (.pair (.slice (.int .i64)) .unit)))))) false), (6, .own (.agg (.pair (.int .i64) (.pair (.int .i64) (.pair (.agg (.pair (.slice (.agg (.pair (.int .i64) (.pair (.int .u64) (.pair (.int .u64) .unit))))) (.pair (.slice (.agg (.pair (.int .i64) (.pair (.int .u64) (.pair (.int .u64) .unit))))) (.pair (.int .i64) (.pair (.int .i64) (.pair (.agg (.pair (.int .i64) (.pair (.slice (.agg (.pair (.int .i64) (.pair (.int .u64) (.pair (.int .u64) .unit))))) .unit))) .unit)))))) (.pair (.int .i64) (.pair (.slice (.int .i64)) .unit)))))) false), (12, .own (.agg (.pair (.int .i64) (.pair (.int .i64) (.pair (.agg (.pair (.slice (.agg (.pair (.int .i64) (.pair (.int .u64) (.pair (.int .u64) .unit))))) (.pair (.slice (.agg (.pair (.int .i64) (.pair (.int .u64) (.pair (.int .u64) .unit))))) (.pair (.int .i64) (.pair (.int .i64) (.pair (.agg (.pair (.int .i64) (.pair (.slice (.agg (.pair (.int .i64) (.pair (.int .u64) (.pair (.int .u64) .unit))))) .unit))) .unit)))))) (.pair (.int .i64) (.pair (.slice (.int .i64)) .unit)))))) false), (16, .dat (.int .i64))], []⟩)]

noncomputable def sem5 : CSem := sm5

/-! ### shunter/shunterlaw25.BatchBack -/
noncomputable def law25_BatchBack_s0 (l_0_0 : List (Int × Int × ((List (Int × Int × Int × Unit)) × (List (Int × Int × Int × Unit)) × Int × Int × (Int × (List (Int × Int × Int × Unit)) × Unit) × Unit) × Int × (List Int) × Unit)) (back_12_0 : List (Int × Int × ((List (Int × Int × Int × Unit)) × (List (Int × Int × Int × Unit)) × Int × Int × (Int × (List (Int × Int × Int × Unit)) × Unit) × Unit) × Int × (List Int) × Unit)) (i_15_0 : Int) : Option ((((List (Int × Int × ((List (Int × Int × Int × Unit)) × (List (Int × Int × Int × Unit)) × Int × Int × (Int × (List (Int × Int × Int × Unit)) × Unit) × Unit) × Int × (List Int) × Unit)) × (List (Int × Int × ((List (Int × Int × Int × Unit)) × (List (Int × Int × Int × Unit)) × Int × Int × (Int × (List (Int × Int × Int × Unit)) × Unit) × Unit) × Int × (List Int) × Unit)) × Int × Unit) × (Unit)) ⊕ ((Bool × Unit) × (Unit))) :=
  bif (decide (i_15_0 < (l_0_0.length : Int))) then
    (Option.map (fun _ => i_15_0) (ckI i_15_0 back_12_0.length)).bind fun v_32 =>
    (rdI back_12_0 v_32).bind fun v_33 =>
    (rdI l_0_0 i_15_0).bind fun v_34 =>
    (batch_Same v_33 v_34).bind fun r_35 =>
    bif !r_35.1.1 then
      some (.inr ((false, ()), ()))
    else
    some (.inl ((l_0_0, back_12_0, (IntKind.i64.wrap (i_15_0 + 1)), ()), ()))
  else
  (law25_lives.bind fun r_37 =>
  some ((r_37.1.1, ()), ())).map .inr
noncomputable def law25_BatchBack (l_0 : List (Int × Int × ((List (Int × Int × Int × Unit)) × (List (Int × Int × Int × Unit)) × Int × Int × (Int × (List (Int × Int × Int × Unit)) × Unit) × Unit) × Int × (List Int) × Unit)) (b_1 : List Int) : Option ((Bool × Unit) × (Unit)) :=
  (law25_light l_0).bind fun r_1 =>
  guardR (!(!r_1.1.1)) (some ()) () fun _ =>
  guardR (!(!r_1.1.1)) (some (b_1.length : Int)) 0 fun v_2 =>
  guardR (!(!r_1.1.1)) (some (decide (v_2 > 6000))) false fun v_3 =>
  bif (bif !r_1.1.1 then true else v_3) then
    law25_lives.bind fun r_5 =>
    some ((r_5.1.1, ()), ())
  else
  (batch_Decode b_1).bind fun r_6 =>
  bif (isNil1 r_6.1.2.2.1) then
    (batch_Encode r_6.1.1).bind fun r_8 =>
    let t39_9 : Bool := !decide (r_8.1.2.1 = 0)
    guardR (!t39_9) (some ()) () fun _ =>
    guardR (!t39_9) (some ()) () fun _ =>
    guardR (!t39_9) (some ()) () fun _ =>
    guardR (!t39_9) (some ()) () fun _ =>
    guardR (!t39_9) (some (!decide (r_8.1.1 = b_1))) false fun v_10 =>
    let t46_11 : Bool := bif t39_9 then true else v_10
    guardR (!t46_11) (some ()) () fun _ =>
    guardR (!t46_11) (some ()) () fun _ =>
    guardR (!t46_11) (some (r_6.1.1.length : Int)) 0 fun v_12 =>
    guardR (!t46_11) (some (!decide (r_6.1.2.1 = v_12))) false fun v_13 =>
    bif (bif t46_11 then true else v_13) then
      some ((false, ()), ())
    else
    (batch_Encode l_0).bind fun r_15 =>
    bif (!decide (r_15.1.2.1 = 0)) then
      let t62_18 : Bool := decide ((r_15.1.1.length : Int) = 0)
      guardR t62_18 law25_lives ((false, ()), ()) fun r_19 =>
      some (((bif t62_18 then r_19.1.1 else false), ()), ())
    else
    (batch_Decode r_15.1.1).bind fun r_21 =>
    let t73_22 : Bool := !(isNil1 r_21.1.2.2.1)
    guardR (!t73_22) (some ()) () fun _ =>
    guardR (!t73_22) (some ()) () fun _ =>
    guardR (!t73_22) (some (l_0.length : Int)) 0 fun v_23 =>
    guardR (!t73_22) (some (!decide (r_21.1.2.1 = v_23))) false fun v_24 =>
    let t79_25 : Bool := bif t73_22 then true else v_24
    guardR (!t79_25) (some ()) () fun _ =>
    guardR (!t79_25) (some (r_21.1.1.length : Int)) 0 fun v_26 =>
    guardR (!t79_25) (some ()) () fun _ =>
    guardR (!t79_25) (some (l_0.length : Int)) 0 fun v_27 =>
    guardR (!t79_25) (some (!decide (v_26 = v_27))) false fun v_28 =>
    bif (bif t79_25 then true else v_28) then
      some ((false, ()), ())
    else
    loopR (fun (z : ((List (Int × Int × ((List (Int × Int × Int × Unit)) × (List (Int × Int × Int × Unit)) × Int × Int × (Int × (List (Int × Int × Int × Unit)) × Unit) × Unit) × Int × (List Int) × Unit)) × (List (Int × Int × ((List (Int × Int × Int × Unit)) × (List (Int × Int × Int × Unit)) × Int × Int × (Int × (List (Int × Int × Int × Unit)) × Unit) × Unit) × Int × (List Int) × Unit)) × Int × Unit) × (Unit)) => law25_BatchBack_s0 z.1.1 z.1.2.1 z.1.2.2.1) ((l_0, r_21.1.1, 0, ()), ())
  else
  (batch_Encode l_0).bind fun r_38 =>
  bif (!decide (r_38.1.2.1 = 0)) then
    let t62_41 : Bool := decide ((r_38.1.1.length : Int) = 0)
    guardR t62_41 law25_lives ((false, ()), ()) fun r_42 =>
    some (((bif t62_41 then r_42.1.1 else false), ()), ())
  else
  (batch_Decode r_38.1.1).bind fun r_44 =>
  let t73_45 : Bool := !(isNil1 r_44.1.2.2.1)
  guardR (!t73_45) (some ()) () fun _ =>
  guardR (!t73_45) (some ()) () fun _ =>
  guardR (!t73_45) (some (l_0.length : Int)) 0 fun v_46 =>
  guardR (!t73_45) (some (!decide (r_44.1.2.1 = v_46))) false fun v_47 =>
  let t79_48 : Bool := bif t73_45 then true else v_47
  guardR (!t79_48) (some ()) () fun _ =>
  guardR (!t79_48) (some (r_44.1.1.length : Int)) 0 fun v_49 =>
  guardR (!t79_48) (some ()) () fun _ =>
  guardR (!t79_48) (some (l_0.length : Int)) 0 fun v_50 =>
  guardR (!t79_48) (some (!decide (v_49 = v_50))) false fun v_51 =>
  bif (bif t79_48 then true else v_51) then
    some ((false, ()), ())
  else
  loopR (fun (z : ((List (Int × Int × ((List (Int × Int × Int × Unit)) × (List (Int × Int × Int × Unit)) × Int × Int × (Int × (List (Int × Int × Int × Unit)) × Unit) × Unit) × Int × (List Int) × Unit)) × (List (Int × Int × ((List (Int × Int × Int × Unit)) × (List (Int × Int × Int × Unit)) × Int × Int × (Int × (List (Int × Int × Int × Unit)) × Unit) × Unit) × Int × (List Int) × Unit)) × Int × Unit) × (Unit)) => law25_BatchBack_s0 z.1.1 z.1.2.1 z.1.2.2.1) ((l_0, r_44.1.1, 0, ()), ())

/-! ### shunter/shunterlaw25.BatchCut -/
noncomputable def law25_BatchCut_s0 (l_0_0 : List (Int × Int × ((List (Int × Int × Int × Unit)) × (List (Int × Int × Int × Unit)) × Int × Int × (Int × (List (Int × Int × Int × Unit)) × Unit) × Unit) × Int × (List Int) × Unit)) (n_1_0 : Int) (m_7_0 : List (Int × Int × ((List (Int × Int × Int × Unit)) × (List (Int × Int × Int × Unit)) × Int × Int × (Int × (List (Int × Int × Int × Unit)) × Unit) × Unit) × Int × (List Int) × Unit)) (k_8_0 : Int) (f_10_0 : Int) (at_11_0 : Int) (whole_12_0 : Int) (size_13_0 : Int) (i_14_0 : Int) : Option ((((List (Int × Int × ((List (Int × Int × Int × Unit)) × (List (Int × Int × Int × Unit)) × Int × Int × (Int × (List (Int × Int × Int × Unit)) × Unit) × Unit) × Int × (List Int) × Unit)) × Int × (List (Int × Int × ((List (Int × Int × Int × Unit)) × (List (Int × Int × Int × Unit)) × Int × Int × (Int × (List (Int × Int × Int × Unit)) × Unit) × Unit) × Int × (List Int) × Unit)) × Int × Int × Int × Int × Int × Int × Unit) × (Unit)) ⊕ ((Bool × Unit) × (Unit))) :=
  bif (decide (i_14_0 < (l_0_0.length : Int))) then
    (rdI l_0_0 i_14_0).bind fun v_16 =>
    (ref25_Bytes v_16).bind fun r_17 =>
    let t63_19 : Int := IntKind.i64.wrap (size_13_0 + (r_17.1.1.length : Int))
    bif (decide (t63_19 ≤ n_1_0)) then
      some (.inl ((l_0_0, n_1_0, m_7_0, k_8_0, f_10_0, at_11_0, (IntKind.i64.wrap (whole_12_0 + 1)), t63_19, (IntKind.i64.wrap (i_14_0 + 1)), ()), ()))
    else
    some (.inl ((l_0_0, n_1_0, m_7_0, k_8_0, f_10_0, at_11_0, whole_12_0, t63_19, (IntKind.i64.wrap (i_14_0 + 1)), ()), ()))
  else
  let t71_25 : Bool := decide ((m_7_0.length : Int) = 0)
  (guardR t71_25 (some ()) () fun _ =>
  guardR t71_25 (some ()) () fun _ =>
  guardR t71_25 (some (decide (k_8_0 = whole_12_0))) false fun v_26 =>
  let t76_27 : Bool := bif t71_25 then v_26 else false
  guardR t76_27 (some ()) () fun _ =>
  guardR t76_27 (some (decide (f_10_0 = 3))) false fun v_28 =>
  let t80_29 : Bool := bif t76_27 then v_28 else false
  guardR t80_29 (some ()) () fun _ =>
  guardR t80_29 (some (decide (at_11_0 ≥ 0))) false fun v_30 =>
  let t84_31 : Bool := bif t80_29 then v_30 else false
  guardR t84_31 (some ()) () fun _ =>
  guardR t84_31 (some ()) () fun _ =>
  guardR t84_31 (some (decide (at_11_0 ≤ n_1_0))) false fun v_32 =>
  let t89_33 : Bool := bif t84_31 then v_32 else false
  guardR t89_33 law25_lives ((false, ()), ()) fun r_34 =>
  some (((bif t89_33 then r_34.1.1 else false), ()), ())).map .inr
noncomputable def law25_BatchCut (l_0 : List (Int × Int × ((List (Int × Int × Int × Unit)) × (List (Int × Int × Int × Unit)) × Int × Int × (Int × (List (Int × Int × Int × Unit)) × Unit) × Unit) × Int × (List Int) × Unit)) (n_1 : Int) : Option ((Bool × Unit) × (Unit)) :=
  (law25_light l_0).bind fun r_1 =>
  bif !r_1.1.1 then
    law25_lives.bind fun r_2 =>
    some ((r_2.1.1, ()), ())
  else
  (batch_Encode l_0).bind fun r_3 =>
  let t25_4 : Bool := !decide (r_3.1.2.1 = 0)
  guardR (!t25_4) (some ()) () fun _ =>
  guardR (!t25_4) (some (decide (n_1 < 0))) false fun v_5 =>
  let t29_6 : Bool := bif t25_4 then true else v_5
  guardR (!t29_6) (some ()) () fun _ =>
  guardR (!t29_6) (some ()) () fun _ =>
  guardR (!t29_6) (some (r_3.1.1.length : Int)) 0 fun v_7 =>
  guardR (!t29_6) (some (decide (n_1 ≥ v_7))) false fun v_8 =>
  bif (bif t29_6 then true else v_8) then
    law25_lives.bind fun r_10 =>
    some ((r_10.1.1, ()), ())
  else
  (subL r_3.1.1 0 n_1).bind fun v_11 =>
  (batch_Decode v_11).bind fun r_12 =>
  (wire_Why_8d8 r_12.1.2.2.1).bind fun r_13 =>
  loopR (fun (z : ((List (Int × Int × ((List (Int × Int × Int × Unit)) × (List (Int × Int × Int × Unit)) × Int × Int × (Int × (List (Int × Int × Int × Unit)) × Unit) × Unit) × Int × (List Int) × Unit)) × Int × (List (Int × Int × ((List (Int × Int × Int × Unit)) × (List (Int × Int × Int × Unit)) × Int × Int × (Int × (List (Int × Int × Int × Unit)) × Unit) × Unit) × Int × (List Int) × Unit)) × Int × Int × Int × Int × Int × Int × Unit) × (Unit)) => law25_BatchCut_s0 z.1.1 z.1.2.1 z.1.2.2.1 z.1.2.2.2.1 z.1.2.2.2.2.1 z.1.2.2.2.2.2.1 z.1.2.2.2.2.2.2.1 z.1.2.2.2.2.2.2.2.1 z.1.2.2.2.2.2.2.2.2.1) ((l_0, n_1, r_12.1.1, r_12.1.2.1, r_13.1.1, r_13.1.2.1, 0, 1, 0, ()), ())

noncomputable def sg6 : Sig := ⟨[.val (.slice (.agg (.pair (.int .i64) (.pair (.int .i64) (.pair (.agg (.pair (.slice (.agg (.pair (.int .i64) (.pair (.int .u64) (.pair (.int .u64) .unit))))) (.pair (.slice (.agg (.pair (.int .i64) (.pair (.int .u64) (.pair (.int .u64) .unit))))) (.pair (.int .i64) (.pair (.int .i64) (.pair (.agg (.pair (.int .i64) (.pair (.slice (.agg (.pair (.int .i64) (.pair (.int .u64) (.pair (.int .u64) .unit))))) .unit))) .unit)))))) (.pair (.int .i64) (.pair (.slice (.int .i64)) .unit))))))), .val (.int .i64)], [.val .bool], []⟩
noncomputable def sm6 : CSem := mkSem sg6 fun x => law25_BatchCut x.1 x.2.1
noncomputable def cf6 : Cfg := cf [(8, sem8), (9, sem9), (13, sem13), (17, sem17), (19, sem19), (12, sem12)] 93 0 [(0, ⟨[(0, .dat (.slice (.agg (.pair (.int .i64) (.pair (.int .i64) (.pair (.agg (.pair (.slice (.agg (.pair (.int .i64) (.pair (.int .u64) (.pair (.int .u64) .unit))))) (.pair (.slice (.agg (.pair (.int .i64) (.pair (.int .u64) (.pair (.int .u64) .unit))))) (.pair (.int .i64) (.pair (.int .i64) (.pair (.agg (.pair (.int .i64) (.pair (.slice (.agg (.pair (.int .i64) (.pair (.int .u64) (.pair (.int .u64) .unit))))) .unit))) .unit)))))) (.pair (.int .i64) (.pair (.slice (.int .i64)) .unit)))))))), (1, .dat (.int .i64)), (7, .own (.agg (.pair (.int .i64) (.pair (.int .i64) (.pair (.agg (.pair (.slice (.agg (.pair (.int .i64) (.pair (.int .u64) (.pair (.int .u64) .unit))))) (.pair (.slice (.agg (.pair (.int .i64) (.pair (.int .u64) (.pair (.int .u64) .unit))))) (.pair (.int .i64) (.pair (.int .i64) (.pair (.agg (.pair (.int .i64) (.pair (.slice (.agg (.pair (.int .i64) (.pair (.int .u64) (.pair (.int .u64) .unit))))) .unit))) .unit)))))) (.pair (.int .i64) (.pair (.slice (.int .i64)) .unit)))))) false), (8, .dat (.int .i64)), (10, .dat (.int .i64)), (11, .dat (.int .i64)), (12, .dat (.int .i64)), (13, .dat (.int .i64)), (14, .dat (.int .i64))], []⟩)]

noncomputable def sem6 : CSem := sm6

end Go.Proofs.Ytplljenbabhjbaa

namespace Go.Proofs.Ytplljenbabhjbaa
open Go Go.Pv Go.Proofs Go.L
set_option maxRecDepth 100000

theorem r99 (word_Shl : (Int × Int × Unit) → Int → Option (((Int × Int × Unit) × Unit) × (Unit))) (word_Shr : (Int × Int × Unit) → Int → Option (((Int × Int × Unit) × Unit) × (Unit))) (x : ArgT ag99) : runFAM (cf99 word_Shl word_Shr) ag99 al99 (bodyOf Try.f99) [(4, some 134)] x = word_Shl_g word_Shl word_Shr x.1 x.2.1 := by kernel_rfl

theorem r84a (x : ArgT sg84a.args) : runFM cf84a sg84a (bodyOf Try.f84) [] x = wire_cursor_fail_ba6 x.1 x.2.1 x.2.2.1 := by kernel_rfl

theorem r88 (x : ArgT sg88.args) : runFM cf88 sg88 (bodyOf Try.f88) [4] x = slices_IndexFunc_api_Vec_api_Vec_d9d x.1 := by kernel_rfl

theorem r78 (x : ArgT ag78) : runFAM cf78 ag78 al78 (bodyOf Try.f78) [(6, some 97)] x = ref07_fail x.1 x.2.1 x.2.2.1 := by kernel_rfl

theorem r36 (x : ArgT sg36.args) : runFM cf36 sg36 (bodyOf Try.f36) [4] x = slices_Equal_api_Vec_api_Vec x.1 x.2.1 := by kernel_rfl

theorem r96 (x : ArgT sg96.args) : runFM cf96 sg96 (bodyOf Try.f96) [] x = wire_Reader_back_28a x.1 x.2.1 x.2.2.1 := by kernel_rfl

theorem r50 (x : ArgT sg50.args) : runFM cf50 sg50 (bodyOf Try.f50) [4] x = slices_ContainsFunc_int_int_6be x.1 := by kernel_rfl

theorem r44a (x : ArgT sg44a.args) : runFM cf44a sg44a (bodyOf Try.f44) [4] x = wire_Reader_Byte_e57 x.1 x.2.1 := by kernel_rfl

theorem r67 (x : ArgT ag67) : runFAM cf67 ag67 al67 (bodyOf Try.f67) [(2, some 30)] x = batch_readCall_59d x.1 := by kernel_rfl

theorem r71 (x : ArgT sg71.args) : runFM cf71 sg71 (bodyOf Try.f71) [4] x = slices_IndexFunc_int_int_6be x.1 := by kernel_rfl

theorem r85 (x : ArgT sg85.args) : runFM cf85 sg85 (bodyOf Try.f85) [4] x = wire_Reader_count_e57 x.1 x.2.1 := by kernel_rfl

theorem r38 (x : ArgT sg38.args) : runFM cf38 sg38 (bodyOf Try.f38) [4] x = slices_Equal_int_int x.1 x.2.1 := by kernel_rfl

theorem r16 (x : ArgT ag16) : runFAM cf16 ag16 al16 (bodyOf Try.f16) [(2, some 35)] x = batch_Copy x.1 := by kernel_rfl

theorem r76 (x : ArgT sg76.args) : runFM cf76 sg76 (bodyOf Try.f76) [2] x = slices_Clip_byte_byte x.1 := by kernel_rfl

theorem r40 (x : ArgT sg40.args) : runFM cf40 sg40 (bodyOf Try.f40) [2] x = slices_Clone_int_int x.1 := by kernel_rfl

theorem r68 (x : ArgT sg68.args) : runFM cf68 sg68 (bodyOf Try.f68) [2] x = wire_Reader_Left_59d x.1 := by kernel_rfl

theorem r35 (x : ArgT sg35.args) : runFM cf35 sg35 (bodyOf Try.f35) [4] x = batch_one_0f3 x.1 x.2.1 := by kernel_rfl

theorem r13a (x : ArgT sg13a.args) : runFM cf13a sg13a (bodyOf Try.f13) [2, 3] x = batch_Encode x.1 := by kernel_rfl

theorem r17 (x : ArgT sg17.args) : runFM cf17 sg17 (bodyOf Try.f17) [2, 3, 4] x = batch_Decode x.1 := by kernel_rfl

theorem r21 (x : ArgT sg21.args) : runFM cf21 sg21 (bodyOf Try.f21) [4] x = ref25_rows x.1 x.2.1 := by kernel_rfl

theorem r39 (x : ArgT sg39.args) : runFM cf39 sg39 (bodyOf Try.f39) [4] x = ref22_Same x.1 x.2.1 := by kernel_rfl

theorem r20 (x : ArgT sg20.args) : runFM cf20 sg20 (bodyOf Try.f20) [2, 3] x = batch_Prefix x.1 := by kernel_rfl

theorem r59 (x : ArgT sg59.args) : runFM cf59 sg59 (bodyOf Try.f59) [4] x = wire_Two x.1 x.2.1 := by kernel_rfl

theorem r22 (x : ArgT sg22.args) : runFM cf22 sg22 (bodyOf Try.f22) [4] x = ref25_in x.1 x.2.1 := by kernel_rfl

theorem r49 (x : ArgT sg49.args) : runFM cf49 sg49 (bodyOf Try.f49) [2] x = batch_group_1 x.1 := by kernel_rfl

theorem r26 (x : ArgT sg26.args) : runFM cf26 sg26 (bodyOf Try.f26) [2] x = batch_matches x.1 := by kernel_rfl

theorem r11a (x : ArgT sg11a.args) : runFM cf11a sg11a (bodyOf Try.f11) [2] x = batch_May x.1 := by kernel_rfl

theorem r5 (x : ArgT sg5.args) : runFM cf5 sg5 (bodyOf Try.f5) [2] x = law25_BatchReads x.1 := by kernel_rfl

theorem r43 (x : ArgT sg43.args) : runFM cf43 sg43 (bodyOf Try.f43) [2] x = wire_Read x.1 := by kernel_rfl

theorem r75 (x : ArgT sg75.args) : runFM cf75 sg75 (bodyOf Try.f75) [2] x = ref03_Of x.1 := by kernel_rfl

theorem r9 (x : ArgT sg9.args) : runFM cf9 sg9 (bodyOf Try.f9) [0] x = law25_lives := by kernel_rfl

end Go.Proofs.Ytplljenbabhjbaa

namespace Go.Proofs.Ytplljenbabhjbaa
open Go Go.Pv Go.Proofs Go.L
set_option maxRecDepth 100000

theorem r93 (word_Shl : (Int × Int × Unit) → Int → Option (((Int × Int × Unit) × Unit) × (Unit))) (word_Shr : (Int × Int × Unit) → Int → Option (((Int × Int × Unit) × Unit) × (Unit))) (x : ArgT ag93) : runFAM (cf93 word_Shl word_Shr) ag93 al93 (bodyOf Try.f93) [(4, some 134)] x = word_Shr_g word_Shl word_Shr x.1 x.2.1 := by kernel_rfl

theorem r60 (x : ArgT ag60) : runFAM cf60 ag60 al60 (bodyOf Try.f60) [(6, some 97), (7, none)] x = ref07_Take x.1 x.2.1 x.2.2.1 := by kernel_rfl

theorem r55 (x : ArgT sg55.args) : runFM cf55 sg55 (bodyOf Try.f55) [4] x = slices_IndexFunc_api_Update_api_Update_b0c x.1 := by kernel_rfl

theorem r72 (x : ArgT sg72.args) : runFM cf72 sg72 (bodyOf Try.f72) [4] x = slices_ContainsFunc_api_Vec_api_Vec_d9d x.1 := by kernel_rfl

theorem r95 (x : ArgT ag95) : runFAM cf95 ag95 al95 (bodyOf Try.f95) [(2, some 97), (3, some 44)] x = ref07_TakeVec x.1 := by kernel_rfl

theorem r84 (x : ArgT sg84.args) : runFM cf84 sg84 (bodyOf Try.f84) [] x = wire_cursor_fail_36a x.1 x.2.1 x.2.2.1 := by kernel_rfl

theorem r101 (x : ArgT ag101) : runFAM cf101 ag101 al101 (bodyOf Try.f101) [(4, some 134)] x = word_Or x.1 x.2.1 := by kernel_rfl

theorem r97 (x : ArgT ag97) : runFAM cf97 ag97 al97 (bodyOf Try.f97) [(2, some 44)] x = wire_Reader_Vec_59d x.1 := by kernel_rfl

theorem r86 (x : ArgT sg86.args) : runFM cf86 sg86 (bodyOf Try.f86) [4] x = wire_Reader_Vecs_e57 x.1 x.2.1 := by kernel_rfl

theorem r91 (x : ArgT ag91) : runFAM cf91 ag91 al91 (bodyOf Try.f91) [(2, some 134)] x = vec_Word x.1 := by kernel_rfl

theorem r18 (x : ArgT sg18.args) : runFM cf18 sg18 (bodyOf Try.f18) [2, 3, 4, 5] x = ref25_Decode x.1 := by kernel_rfl

theorem r100 (x : ArgT sg100.args) : runFM cf100 sg100 (bodyOf Try.f100) [2, 3] x = ref01_Halves x.1 := by kernel_rfl

theorem r46 (x : ArgT sg46.args) : runFM cf46 sg46 (bodyOf Try.f46) [2] x = wire_Reader_Bad_59d x.1 := by kernel_rfl

theorem r33 (x : ArgT sg33.args) : runFM cf33 sg33 (bodyOf Try.f33) [2] x = batch_Encode_1_cc5 x.1 := by kernel_rfl

theorem r33a (x : ArgT sg33a.args) : runFM cf33a sg33a (bodyOf Try.f33) [2] x = batch_Encode_1 x.1 := by kernel_rfl

theorem r4 (x : ArgT sg4.args) : runFM cf4 sg4 (bodyOf Try.f4) [4] x = law25_BatchCopies x.1 x.2.1 := by kernel_rfl

theorem r62 (x : ArgT sg62.args) : runFM cf62 sg62 (bodyOf Try.f62) [2, 3] x = ref07_End x.1 := by kernel_rfl

theorem r28 (x : ArgT sg28.args) : runFM cf28 sg28 (bodyOf Try.f28) [2] x = batch_calls x.1 := by kernel_rfl

theorem r53 (x : ArgT sg53.args) : runFM cf53 sg53 (bodyOf Try.f53) [2] x = ref03_Bytes x.1 := by kernel_rfl

theorem r52 (x : ArgT sg52.args) : runFM cf52 sg52 (bodyOf Try.f52) [2] x = ref02_Bits x.1 := by kernel_rfl

theorem r31 (x : ArgT sg31.args) : runFM cf31 sg31 (bodyOf Try.f31) [2] x = ref25_vecs x.1 := by kernel_rfl

theorem r89 (x : ArgT sg89.args) : runFM cf89 sg89 (bodyOf Try.f89) [2] x = vec_width x.1 := by kernel_rfl

theorem r92 (x : ArgT sg92.args) : runFM cf92 sg92 (bodyOf Try.f92) [2] x = wire_room x.1 := by kernel_rfl

theorem r69 (x : ArgT sg69.args) : runFM cf69 sg69 (bodyOf Try.f69) [2] x = ref01_Len x.1 := by kernel_rfl

theorem r10 (x : ArgT sg10.args) : runFM cf10 sg10 (bodyOf Try.f10) [2] x = ref25_May x.1 := by kernel_rfl

end Go.Proofs.Ytplljenbabhjbaa

namespace Go.Proofs.Ytplljenbabhjbaa
open Go Go.Pv Go.Proofs Go.L
set_option maxRecDepth 100000

theorem r102 (x : ArgT ag102) : runFAM cf102 ag102 al102 (bodyOf Try.f102) [(6, some 44), (7, none)] x = vec_New x.1 x.2.1 x.2.2.1 := by kernel_rfl

theorem r55a (x : ArgT sg55a.args) : runFM cf55a sg55a (bodyOf Try.f55) [4] x = slices_IndexFunc_api_Update_api_Update_d99 x.1 := by kernel_rfl

theorem r64a (x : ArgT sg64a.args) : runFM cf64a sg64a (bodyOf Try.f64) [6] x = wire_Reader_number_28a x.1 x.2.1 x.2.2.1 := by kernel_rfl

theorem r64 (x : ArgT sg64.args) : runFM cf64 sg64 (bodyOf Try.f64) [6] x = wire_Reader_number_395 x.1 x.2.1 x.2.2.1 := by kernel_rfl

theorem r83a (x : ArgT sg83a.args) : runFM cf83a sg83a (bodyOf Try.f83) [4, 5] x = wire_cursor_take_c4f x.1 x.2.1 := by kernel_rfl

theorem r66 (x : ArgT ag66) : runFAM cf66 ag66 al66 (bodyOf Try.f66) [(2, some 32)] x = batch_readMatch_59d x.1 := by kernel_rfl

theorem r83 (x : ArgT sg83.args) : runFM cf83 sg83 (bodyOf Try.f83) [4, 5] x = wire_cursor_take_1ca x.1 x.2.1 := by kernel_rfl

theorem r41 (x : ArgT sg41.args) : runFM cf41 sg41 (bodyOf Try.f41) [2] x = slices_Clone_api_Vec_api_Vec x.1 := by kernel_rfl

theorem r70 (x : ArgT ag70) : runFAM cf70 ag70 al70 (bodyOf Try.f70) [(4, some 115)] x = ref01_Of x.1 x.2.1 := by kernel_rfl

theorem r45 (x : ArgT ag45) : runFAM cf45 ag45 al45 (bodyOf Try.f45) [(2, some 35)] x = batch_read_59d x.1 := by kernel_rfl

theorem r94 (x : ArgT ag94) : runFAM cf94 ag94 al94 (bodyOf Try.f94) [(2, some 44)] x = ref02_Of x.1 := by kernel_rfl

theorem r13 (x : ArgT sg13.args) : runFM cf13 sg13 (bodyOf Try.f13) [2, 3] x = batch_Encode_f85 x.1 := by kernel_rfl

theorem r30 (x : ArgT sg30.args) : runFM cf30 sg30 (bodyOf Try.f30) [4] x = ref07_Number x.1 x.2.1 := by kernel_rfl

theorem r51 (x : ArgT sg51.args) : runFM cf51 sg51 (bodyOf Try.f51) [4] x = batch_rows x.1 x.2.1 := by kernel_rfl

theorem r37 (x : ArgT sg37.args) : runFM cf37 sg37 (bodyOf Try.f37) [4] x = batch_same x.1 x.2.1 := by kernel_rfl

theorem r14 (x : ArgT sg14.args) : runFM cf14 sg14 (bodyOf Try.f14) [4] x = batch_Same x.1 x.2.1 := by kernel_rfl

theorem r25 (x : ArgT sg25.args) : runFM cf25 sg25 (bodyOf Try.f25) [2] x = batch_blank_ea6 x.1 := by kernel_rfl

theorem r25a (x : ArgT sg25a.args) : runFM cf25a sg25a (bodyOf Try.f25) [2] x = batch_blank x.1 := by kernel_rfl

theorem r24 (x : ArgT sg24.args) : runFM cf24 sg24 (bodyOf Try.f24) [2] x = batch_group_cc5 x.1 := by kernel_rfl

theorem r24a (x : ArgT sg24a.args) : runFM cf24a sg24a (bodyOf Try.f24) [2] x = batch_group x.1 := by kernel_rfl

theorem r27 (x : ArgT sg27.args) : runFM cf27 sg27 (bodyOf Try.f27) [2] x = batch_match_ea6 x.1 := by kernel_rfl

theorem r27a (x : ArgT sg27a.args) : runFM cf27a sg27a (bodyOf Try.f27) [2] x = batch_match x.1 := by kernel_rfl

theorem r34 (x : ArgT sg34.args) : runFM cf34 sg34 (bodyOf Try.f34) [4] x = wire_Byte x.1 x.2.1 := by kernel_rfl

theorem r58 (x : ArgT sg58.args) : runFM cf58 sg58 (bodyOf Try.f58) [4] x = wire_Vecs x.1 x.2.1 := by kernel_rfl

theorem r19 (x : ArgT sg19.args) : runFM cf19 sg19 (bodyOf Try.f19) [2, 3] x = wire_Why_8d8 x.1 := by kernel_rfl

theorem r29 (x : ArgT sg29.args) : runFM cf29 sg29 (bodyOf Try.f29) [2] x = batch_call_7ab x.1 := by kernel_rfl

theorem r29a (x : ArgT sg29a.args) : runFM cf29a sg29a (bodyOf Try.f29) [2] x = batch_call x.1 := by kernel_rfl

theorem r77 (x : ArgT sg77.args) : runFM cf77 sg77 (bodyOf Try.f77) [4] x = wire_Vec x.1 x.2.1 := by kernel_rfl

theorem r11 (x : ArgT sg11.args) : runFM cf11 sg11 (bodyOf Try.f11) [2] x = batch_May_cc5 x.1 := by kernel_rfl

theorem r12 (x : ArgT sg12.args) : runFM cf12 sg12 (bodyOf Try.f12) [2] x = ref25_Bytes x.1 := by kernel_rfl

theorem r80 (x : ArgT sg80.args) : runFM cf80 sg80 (bodyOf Try.f80) [2] x = ref03_Bits x.1 := by kernel_rfl

theorem r48 (x : ArgT sg48.args) : runFM cf48 sg48 (bodyOf Try.f48) [2] x = ref02_May x.1 := by kernel_rfl

theorem r54 (x : ArgT sg54.args) : runFM cf54 sg54 (bodyOf Try.f54) [2] x = ref07_Vec x.1 := by kernel_rfl

theorem r90 (x : ArgT sg90.args) : runFM cf90 sg90 (bodyOf Try.f90) [2] x = word_Len x.1 := by kernel_rfl

theorem r74 (x : ArgT sg74.args) : runFM cf74 sg74 (bodyOf Try.f74) [2] x = vec_May x.1 := by kernel_rfl

theorem r8 (x : ArgT sg8.args) : runFM cf8 sg8 (bodyOf Try.f8) [2] x = law25_light x.1 := by kernel_rfl

end Go.Proofs.Ytplljenbabhjbaa

namespace Go.Proofs.Ytplljenbabhjbaa
open Go Go.Pv Go.Proofs Go.L
set_option maxRecDepth 100000

theorem r32a (x : ArgT sg32a.args) : runFM cf32a sg32a (bodyOf Try.f32) [4] x = slices_ContainsFunc_api_Update_api_Update_d99 x.1 := by kernel_rfl

theorem r32 (x : ArgT sg32.args) : runFM cf32 sg32 (bodyOf Try.f32) [4] x = slices_ContainsFunc_api_Update_api_Update_b0c x.1 := by kernel_rfl

theorem r82 (x : ArgT ag82) : runFAM cf82 ag82 al82 (bodyOf Try.f82) [(4, some 97), (5, none)] x = ref25_takeVecs x.1 x.2.1 := by kernel_rfl

theorem r81 (x : ArgT ag81) : runFAM cf81 ag81 al81 (bodyOf Try.f81) [(4, some 97), (5, none)] x = ref07_Count x.1 x.2.1 := by kernel_rfl

theorem r65 (x : ArgT sg65.args) : runFM cf65 sg65 (bodyOf Try.f65) [6] x = wire_Reader_Numbers_28a x.1 x.2.1 x.2.2.1 := by kernel_rfl

theorem r61 (x : ArgT ag61) : runFAM cf61 ag61 al61 (bodyOf Try.f61) [(2, some 97), (3, some 35)] x = ref25_take x.1 := by kernel_rfl

theorem r23 (x : ArgT sg23.args) : runFM cf23 sg23 (bodyOf Try.f23) [6] x = batch_within x.1 x.2.1 x.2.2.1 := by kernel_rfl

theorem r44 (x : ArgT sg44.args) : runFM cf44 sg44 (bodyOf Try.f44) [4] x = wire_Reader_Byte_db0 x.1 x.2.1 := by kernel_rfl

theorem r87 (x : ArgT sg87.args) : runFM cf87 sg87 (bodyOf Try.f87) [4] x = wire_Reader_Two_e57 x.1 x.2.1 := by kernel_rfl

theorem r56 (x : ArgT sg56.args) : runFM cf56 sg56 (bodyOf Try.f56) [6] x = wire_put x.1 x.2.1 x.2.2.1 := by kernel_rfl

theorem r79 (x : ArgT ag79) : runFAM cf79 ag79 al79 (bodyOf Try.f79) [(2, some 44)] x = ref03_Vec x.1 := by kernel_rfl

theorem r35a (x : ArgT sg35a.args) : runFM cf35a sg35a (bodyOf Try.f35) [4] x = batch_one x.1 x.2.1 := by kernel_rfl

theorem r47 (x : ArgT sg47.args) : runFM cf47 sg47 (bodyOf Try.f47) [2] x = wire_Reader_End_59d x.1 := by kernel_rfl

theorem r57 (x : ArgT sg57.args) : runFM cf57 sg57 (bodyOf Try.f57) [4] x = wire_Numbers x.1 x.2.1 := by kernel_rfl

theorem r42 (x : ArgT sg42.args) : runFM cf42 sg42 (bodyOf Try.f42) [2, 3, 4] x = ref25_Prefix x.1 := by kernel_rfl

theorem r15 (x : ArgT sg15.args) : runFM cf15 sg15 (bodyOf Try.f15) [4] x = ref25_Same x.1 x.2.1 := by kernel_rfl

theorem r6 (x : ArgT sg6.args) : runFM cf6 sg6 (bodyOf Try.f6) [4] x = law25_BatchCut x.1 x.2.1 := by kernel_rfl

theorem r73 (x : ArgT sg73.args) : runFM cf73 sg73 (bodyOf Try.f73) [2] x = batch_rows_1 x.1 := by kernel_rfl

theorem r3 (x : ArgT sg3.args) : runFM cf3 sg3 (bodyOf Try.f3) [2] x = law25_BatchWrites x.1 := by kernel_rfl

theorem r63 (x : ArgT sg63.args) : runFM cf63 sg63 (bodyOf Try.f63) [2] x = bytes_Clone x.1 := by kernel_rfl

theorem r98 (x : ArgT sg98.args) : runFM cf98 sg98 (bodyOf Try.f98) [2] x = bits_Len64 x.1 := by kernel_rfl

end Go.Proofs.Ytplljenbabhjbaa

namespace Go.Proofs.Ytplljenbabhjbaa
open Go Go.Pv Go.Proofs Go.L
set_option maxRecDepth 100000

theorem c8 : Contract Try.prog 8 sm8 :=
  contract_ofM (C := cf8) (fun f sem h => (Tab.nil : Tab _) _ (lk_mem' h)) (S := sg8) (fn := Try.f8) (c := bodyOf Try.f8) (ts := [2]) Try.func8 (by kernel_rfl) (by kernel_rfl) (by kernel_rfl) (by kernel_rfl) (by kernel_rfl) (by kernel_rfl) (by kernel_rfl) r8

theorem k8 : Contract Try.prog 8 sem8 := c8

theorem c23 : Contract Try.prog 23 sm23 :=
  contract_ofM (C := cf23) (fun f sem h => (Tab.nil : Tab _) _ (lk_mem' h)) (S := sg23) (fn := Try.f23) (c := bodyOf Try.f23) (ts := [6]) Try.func23 (by kernel_rfl) (by kernel_rfl) (by kernel_rfl) (by kernel_rfl) (by kernel_rfl) (by kernel_rfl) (by kernel_rfl) r23

theorem k23 : Contract Try.prog 23 sem23 := c23

theorem c25 : Contract Try.prog 25 sm25 :=
  contract_ofM (C := cf25) (fun f sem h => (Tab.nil : Tab _) _ (lk_mem' h)) (S := sg25) (fn := Try.f25) (c := bodyOf Try.f25) (ts := [2]) Try.func25 (by kernel_rfl) (by kernel_rfl) (by kernel_rfl) (by kernel_rfl) (by kernel_rfl) (by kernel_rfl) (by kernel_rfl) r25

theorem c25a : Contract Try.prog 25 sm25a :=
  contract_ofM (C := cf25a) (fun f sem h => (Tab.nil : Tab _) _ (lk_mem' h)) (S := sg25a) (fn := Try.f25) (c := bodyOf Try.f25) (ts := [2]) Try.func25 (by kernel_rfl) (by kernel_rfl) (by kernel_rfl) (by kernel_rfl) (by kernel_rfl) (by kernel_rfl) (by kernel_rfl) r25a

theorem k25 : Contract Try.prog 25 sem25 := contract_or c25 (c25a)

theorem c49 : Contract Try.prog 49 sm49 :=
  contract_ofM (C := cf49) (fun f sem h => (Tab.cons k23 Tab.nil : Tab _) _ (lk_mem' h)) (S := sg49) (fn := Try.f49) (c := bodyOf Try.f49) (ts := [2]) Try.func49 (by kernel_rfl) (by kernel_rfl) (by kernel_rfl) (by kernel_rfl) (by kernel_rfl) (by kernel_rfl) (by kernel_rfl) r49

theorem k49 : Contract Try.prog 49 sem49 := c49

theorem c71 : Contract Try.prog 71 sm71 :=
  contract_ofM (C := cf71) (fun f sem h => (Tab.cons k49 Tab.nil : Tab _) _ (lk_mem' h)) (S := sg71) (fn := Try.f71) (c := bodyOf Try.f71) (ts := [4]) Try.func71 (by kernel_rfl) (by kernel_rfl) (by kernel_rfl) (by kernel_rfl) (by kernel_rfl) (by kernel_rfl) (by kernel_rfl) r71

theorem k71 : Contract Try.prog 71 sem71 := c71

theorem c50 : Contract Try.prog 50 sm50 :=
  contract_ofM (C := cf50) (fun f sem h => (Tab.cons k71 Tab.nil : Tab _) _ (lk_mem' h)) (S := sg50) (fn := Try.f50) (c := bodyOf Try.f50) (ts := [4]) Try.func50 (by kernel_rfl) (by kernel_rfl) (by kernel_rfl) (by kernel_rfl) (by kernel_rfl) (by kernel_rfl) (by kernel_rfl) r50

theorem k50 : Contract Try.prog 50 sem50 := c50

theorem c24 : Contract Try.prog 24 sm24 :=
  contract_ofM (C := cf24) (fun f sem h => (Tab.cons k25 (Tab.cons k23 (Tab.cons k50 Tab.nil)) : Tab _) _ (lk_mem' h)) (S := sg24) (fn := Try.f24) (c := bodyOf Try.f24) (ts := [2]) Try.func24 (by kernel_rfl) (by kernel_rfl) (by kernel_rfl) (by kernel_rfl) (by kernel_rfl) (by kernel_rfl) (by kernel_rfl) r24

theorem c24a : Contract Try.prog 24 sm24a :=
  contract_ofM (C := cf24a) (fun f sem h => (Tab.cons k25 (Tab.cons k23 (Tab.cons k50 Tab.nil)) : Tab _) _ (lk_mem' h)) (S := sg24a) (fn := Try.f24) (c := bodyOf Try.f24) (ts := [2]) Try.func24 (by kernel_rfl) (by kernel_rfl) (by kernel_rfl) (by kernel_rfl) (by kernel_rfl) (by kernel_rfl) (by kernel_rfl) r24a

theorem k24 : Contract Try.prog 24 sem24 := contract_or c24 (c24a)

theorem c26 : Contract Try.prog 26 sm26 :=
  contract_ofM (C := cf26) (fun f sem h => (Tab.nil : Tab _) _ (lk_mem' h)) (S := sg26) (fn := Try.f26) (c := bodyOf Try.f26) (ts := [2]) Try.func26 (by kernel_rfl) (by kernel_rfl) (by kernel_rfl) (by kernel_rfl) (by kernel_rfl) (by kernel_rfl) (by kernel_rfl) r26

theorem k26 : Contract Try.prog 26 sem26 := c26

theorem c89 : Contract Try.prog 89 sm89 :=
  contract_ofM (C := cf89) (fun f sem h => (Tab.nil : Tab _) _ (lk_mem' h)) (S := sg89) (fn := Try.f89) (c := bodyOf Try.f89) (ts := [2]) Try.func89 (by kernel_rfl) (by kernel_rfl) (by kernel_rfl) (by kernel_rfl) (by kernel_rfl) (by kernel_rfl) (by kernel_rfl) r89

theorem k89 : Contract Try.prog 89 sem89 := c89

theorem c91 : Contract Try.prog 91 sm91 :=
  contract_ofAM (C := cf91) (fun f sem h => (Tab.nil : Tab _) _ (lk_mem' h)) (args := ag91) (alts := al91) (fn := Try.f91) (c := bodyOf Try.f91) (ts := [(2, some 134)]) Try.func91 (by kernel_rfl) (by kernel_rfl) (by kernel_rfl) (by kernel_rfl) (by kernel_rfl) (by kernel_rfl) (by kernel_rfl) r91

theorem k91 : Contract Try.prog 91 sem91 := c91

theorem c98 : Contract Try.prog 98 sm98 :=
  contract_ofM (C := cf98) (fun f sem h => (Tab.nil : Tab _) _ (lk_mem' h)) (S := sg98) (fn := Try.f98) (c := bodyOf Try.f98) (ts := [2]) Try.func98 (by kernel_rfl) (by kernel_rfl) (by kernel_rfl) (by kernel_rfl) (by kernel_rfl) (by kernel_rfl) (by kernel_rfl) r98

theorem k98 : Contract Try.prog 98 sem98 := c98

theorem c90 : Contract Try.prog 90 sm90 :=
  contract_ofM (C := cf90) (fun f sem h => (Tab.cons k98 Tab.nil : Tab _) _ (lk_mem' h)) (S := sg90) (fn := Try.f90) (c := bodyOf Try.f90) (ts := [2]) Try.func90 (by kernel_rfl) (by kernel_rfl) (by kernel_rfl) (by kernel_rfl) (by kernel_rfl) (by kernel_rfl) (by kernel_rfl) r90

theorem k90 : Contract Try.prog 90 sem90 := c90

theorem c74 : Contract Try.prog 74 sm74 :=
  contract_ofM (C := cf74) (fun f sem h => (Tab.cons k89 (Tab.cons k91 (Tab.cons k90 Tab.nil)) : Tab _) _ (lk_mem' h)) (S := sg74) (fn := Try.f74) (c := bodyOf Try.f74) (ts := [2]) Try.func74 (by kernel_rfl) (by kernel_rfl) (by kernel_rfl) (by kernel_rfl) (by kernel_rfl) (by kernel_rfl) (by kernel_rfl) r74

theorem k74 : Contract Try.prog 74 sem74 := c74

theorem c73 : Contract Try.prog 73 sm73 :=
  contract_ofM (C := cf73) (fun f sem h => (Tab.cons k74 Tab.nil : Tab _) _ (lk_mem' h)) (S := sg73) (fn := Try.f73) (c := bodyOf Try.f73) (ts := [2]) Try.func73 (by kernel_rfl) (by kernel_rfl) (by kernel_rfl) (by kernel_rfl) (by kernel_rfl) (by kernel_rfl) (by kernel_rfl) r73

theorem k73 : Contract Try.prog 73 sem73 := c73

theorem c88 : Contract Try.prog 88 sm88 :=
  contract_ofM (C := cf88) (fun f sem h => (Tab.cons k73 Tab.nil : Tab _) _ (lk_mem' h)) (S := sg88) (fn := Try.f88) (c := bodyOf Try.f88) (ts := [4]) Try.func88 (by kernel_rfl) (by kernel_rfl) (by kernel_rfl) (by kernel_rfl) (by kernel_rfl) (by kernel_rfl) (by kernel_rfl) r88

theorem k88 : Contract Try.prog 88 sem88 := c88

theorem c72 : Contract Try.prog 72 sm72 :=
  contract_ofM (C := cf72) (fun f sem h => (Tab.cons k88 Tab.nil : Tab _) _ (lk_mem' h)) (S := sg72) (fn := Try.f72) (c := bodyOf Try.f72) (ts := [4]) Try.func72 (by kernel_rfl) (by kernel_rfl) (by kernel_rfl) (by kernel_rfl) (by kernel_rfl) (by kernel_rfl) (by kernel_rfl) r72

theorem k72 : Contract Try.prog 72 sem72 := c72

theorem c51 : Contract Try.prog 51 sm51 :=
  contract_ofM (C := cf51) (fun f sem h => (Tab.cons k72 Tab.nil : Tab _) _ (lk_mem' h)) (S := sg51) (fn := Try.f51) (c := bodyOf Try.f51) (ts := [4]) Try.func51 (by kernel_rfl) (by kernel_rfl) (by kernel_rfl) (by kernel_rfl) (by kernel_rfl) (by kernel_rfl) (by kernel_rfl) r51

theorem k51 : Contract Try.prog 51 sem51 := c51

theorem c27 : Contract Try.prog 27 sm27 :=
  contract_ofM (C := cf27) (fun f sem h => (Tab.cons k51 (Tab.cons k23 Tab.nil) : Tab _) _ (lk_mem' h)) (S := sg27) (fn := Try.f27) (c := bodyOf Try.f27) (ts := [2]) Try.func27 (by kernel_rfl) (by kernel_rfl) (by kernel_rfl) (by kernel_rfl) (by kernel_rfl) (by kernel_rfl) (by kernel_rfl) r27

theorem c27a : Contract Try.prog 27 sm27a :=
  contract_ofM (C := cf27a) (fun f sem h => (Tab.cons k51 (Tab.cons k23 Tab.nil) : Tab _) _ (lk_mem' h)) (S := sg27a) (fn := Try.f27) (c := bodyOf Try.f27) (ts := [2]) Try.func27 (by kernel_rfl) (by kernel_rfl) (by kernel_rfl) (by kernel_rfl) (by kernel_rfl) (by kernel_rfl) (by kernel_rfl) r27a

theorem k27 : Contract Try.prog 27 sem27 := contract_or c27 (c27a)

theorem c28 : Contract Try.prog 28 sm28 :=
  contract_ofM (C := cf28) (fun f sem h => (Tab.nil : Tab _) _ (lk_mem' h)) (S := sg28) (fn := Try.f28) (c := bodyOf Try.f28) (ts := [2]) Try.func28 (by kernel_rfl) (by kernel_rfl) (by kernel_rfl) (by kernel_rfl) (by kernel_rfl) (by kernel_rfl) (by kernel_rfl) r28

theorem k28 : Contract Try.prog 28 sem28 := c28

theorem c29 : Contract Try.prog 29 sm29 :=
  contract_ofM (C := cf29) (fun f sem h => (Tab.cons k23 (Tab.cons k51 Tab.nil) : Tab _) _ (lk_mem' h)) (S := sg29) (fn := Try.f29) (c := bodyOf Try.f29) (ts := [2]) Try.func29 (by kernel_rfl) (by kernel_rfl) (by kernel_rfl) (by kernel_rfl) (by kernel_rfl) (by kernel_rfl) (by kernel_rfl) r29

theorem c29a : Contract Try.prog 29 sm29a :=
  contract_ofM (C := cf29a) (fun f sem h => (Tab.cons k23 (Tab.cons k51 Tab.nil) : Tab _) _ (lk_mem' h)) (S := sg29a) (fn := Try.f29) (c := bodyOf Try.f29) (ts := [2]) Try.func29 (by kernel_rfl) (by kernel_rfl) (by kernel_rfl) (by kernel_rfl) (by kernel_rfl) (by kernel_rfl) (by kernel_rfl) r29a

theorem k29 : Contract Try.prog 29 sem29 := contract_or c29 (c29a)

theorem c11 : Contract Try.prog 11 sm11 :=
  contract_ofM (C := cf11) (fun f sem h => (Tab.cons k23 (Tab.cons k24 (Tab.cons k25 (Tab.cons k26 (Tab.cons k27 (Tab.cons k28 (Tab.cons k29 Tab.nil)))))) : Tab _) _ (lk_mem' h)) (S := sg11) (fn := Try.f11) (c := bodyOf Try.f11) (ts := [2]) Try.func11 (by kernel_rfl) (by kernel_rfl) (by kernel_rfl) (by kernel_rfl) (by kernel_rfl) (by kernel_rfl) (by kernel_rfl) r11

theorem c11a : Contract Try.prog 11 sm11a :=
  contract_ofM (C := cf11a) (fun f sem h => (Tab.cons k23 (Tab.cons k24 (Tab.cons k25 (Tab.cons k26 (Tab.cons k27 (Tab.cons k28 (Tab.cons k29 Tab.nil)))))) : Tab _) _ (lk_mem' h)) (S := sg11a) (fn := Try.f11) (c := bodyOf Try.f11) (ts := [2]) Try.func11 (by kernel_rfl) (by kernel_rfl) (by kernel_rfl) (by kernel_rfl) (by kernel_rfl) (by kernel_rfl) (by kernel_rfl) r11a

theorem k11 : Contract Try.prog 11 sem11 := contract_or c11 (c11a)

theorem c33 : Contract Try.prog 33 sm33 :=
  contract_ofM (C := cf33) (fun f sem h => (Tab.cons k11 Tab.nil : Tab _) _ (lk_mem' h)) (S := sg33) (fn := Try.f33) (c := bodyOf Try.f33) (ts := [2]) Try.func33 (by kernel_rfl) (by kernel_rfl) (by kernel_rfl) (by kernel_rfl) (by kernel_rfl) (by kernel_rfl) (by kernel_rfl) r33

theorem c33a : Contract Try.prog 33 sm33a :=
  contract_ofM (C := cf33a) (fun f sem h => (Tab.cons k11 Tab.nil : Tab _) _ (lk_mem' h)) (S := sg33a) (fn := Try.f33) (c := bodyOf Try.f33) (ts := [2]) Try.func33 (by kernel_rfl) (by kernel_rfl) (by kernel_rfl) (by kernel_rfl) (by kernel_rfl) (by kernel_rfl) (by kernel_rfl) r33a

theorem k33 : Contract Try.prog 33 sem33 := contract_or c33 (c33a)

theorem c55 : Contract Try.prog 55 sm55 :=
  contract_ofM (C := cf55) (fun f sem h => (Tab.cons k33 Tab.nil : Tab _) _ (lk_mem' h)) (S := sg55) (fn := Try.f55) (c := bodyOf Try.f55) (ts := [4]) Try.func55 (by kernel_rfl) (by kernel_rfl) (by kernel_rfl) (by kernel_rfl) (by kernel_rfl) (by kernel_rfl) (by kernel_rfl) r55

theorem c55a : Contract Try.prog 55 sm55a :=
  contract_ofM (C := cf55a) (fun f sem h => (Tab.cons k33 Tab.nil : Tab _) _ (lk_mem' h)) (S := sg55a) (fn := Try.f55) (c := bodyOf Try.f55) (ts := [4]) Try.func55 (by kernel_rfl) (by kernel_rfl) (by kernel_rfl) (by kernel_rfl) (by kernel_rfl) (by kernel_rfl) (by kernel_rfl) r55a

theorem k55 : Contract Try.prog 55 sem55 := contract_or c55 (c55a)

theorem c32 : Contract Try.prog 32 sm32 :=
  contract_ofM (C := cf32) (fun f sem h => (Tab.cons k55 Tab.nil : Tab _) _ (lk_mem' h)) (S := sg32) (fn := Try.f32) (c := bodyOf Try.f32) (ts := [4]) Try.func32 (by kernel_rfl) (by kernel_rfl) (by kernel_rfl) (by kernel_rfl) (by kernel_rfl) (by kernel_rfl) (by kernel_rfl) r32

theorem c32a : Contract Try.prog 32 sm32a :=
  contract_ofM (C := cf32a) (fun f sem h => (Tab.cons k55 Tab.nil : Tab _) _ (lk_mem' h)) (S := sg32a) (fn := Try.f32) (c := bodyOf Try.f32) (ts := [4]) Try.func32 (by kernel_rfl) (by kernel_rfl) (by kernel_rfl) (by kernel_rfl) (by kernel_rfl) (by kernel_rfl) (by kernel_rfl) r32a

theorem k32 : Contract Try.prog 32 sem32 := contract_or c32 (c32a)

theorem c63 : Contract Try.prog 63 sm63 :=
  contract_ofM (C := cf63) (fun f sem h => (Tab.nil : Tab _) _ (lk_mem' h)) (S := sg63) (fn := Try.f63) (c := bodyOf Try.f63) (ts := [2]) Try.func63 (by kernel_rfl) (by kernel_rfl) (by kernel_rfl) (by kernel_rfl) (by kernel_rfl) (by kernel_rfl) (by kernel_rfl) r63

theorem k63 : Contract Try.prog 63 sem63 := c63

theorem c76 : Contract Try.prog 76 sm76 :=
  contract_ofM (C := cf76) (fun f sem h => (Tab.nil : Tab _) _ (lk_mem' h)) (S := sg76) (fn := Try.f76) (c := bodyOf Try.f76) (ts := [2]) Try.func76 (by kernel_rfl) (by kernel_rfl) (by kernel_rfl) (by kernel_rfl) (by kernel_rfl) (by kernel_rfl) (by kernel_rfl) r76

theorem k76 : Contract Try.prog 76 sem76 := c76

theorem c56 : Contract Try.prog 56 sm56 :=
  contract_ofM (C := cf56) (fun f sem h => (Tab.cons k63 (Tab.cons k76 Tab.nil) : Tab _) _ (lk_mem' h)) (S := sg56) (fn := Try.f56) (c := bodyOf Try.f56) (ts := [6]) Try.func56 (by kernel_rfl) (by kernel_rfl) (by kernel_rfl) (by kernel_rfl) (by kernel_rfl) (by kernel_rfl) (by kernel_rfl) r56

theorem k56 : Contract Try.prog 56 sem56 := c56

theorem c34 : Contract Try.prog 34 sm34 :=
  contract_ofM (C := cf34) (fun f sem h => (Tab.cons k56 Tab.nil : Tab _) _ (lk_mem' h)) (S := sg34) (fn := Try.f34) (c := bodyOf Try.f34) (ts := [4]) Try.func34 (by kernel_rfl) (by kernel_rfl) (by kernel_rfl) (by kernel_rfl) (by kernel_rfl) (by kernel_rfl) (by kernel_rfl) r34

theorem k34 : Contract Try.prog 34 sem34 := c34

theorem c57 : Contract Try.prog 57 sm57 :=
  contract_ofM (C := cf57) (fun f sem h => (Tab.cons k56 Tab.nil : Tab _) _ (lk_mem' h)) (S := sg57) (fn := Try.f57) (c := bodyOf Try.f57) (ts := [4]) Try.func57 (by kernel_rfl) (by kernel_rfl) (by kernel_rfl) (by kernel_rfl) (by kernel_rfl) (by kernel_rfl) (by kernel_rfl) r57

theorem k57 : Contract Try.prog 57 sem57 := c57

theorem c92 : Contract Try.prog 92 sm92 :=
  contract_ofM (C := cf92) (fun f sem h => (Tab.nil : Tab _) _ (lk_mem' h)) (S := sg92) (fn := Try.f92) (c := bodyOf Try.f92) (ts := [2]) Try.func92 (by kernel_rfl) (by kernel_rfl) (by kernel_rfl) (by kernel_rfl) (by kernel_rfl) (by kernel_rfl) (by kernel_rfl) r92

theorem k92 : Contract Try.prog 92 sem92 := c92

theorem c99S (word_Shl : (Int × Int × Unit) → Int → Option (((Int × Int × Unit) × Unit) × (Unit))) (word_Shr : (Int × Int × Unit) → Int → Option (((Int × Int × Unit) × Unit) × (Unit))) (h99 : Contract Try.prog 99 (sm99 word_Shl)) (h93 : Contract Try.prog 93 (sm93 word_Shr)) : Contract Try.prog 99 (sm99 (word_Shl_g word_Shl word_Shr)) :=
  contract_ofAM (C := cf99 word_Shl word_Shr) (fun f sem h => (Tab.cons h93 Tab.nil : Tab _) _ (lk_mem' h)) (args := ag99) (alts := al99) (fn := Try.f99) (c := bodyOf Try.f99) (ts := [(4, some 134)]) Try.func99 (by kernel_rfl) (by kernel_rfl) (by kernel_rfl) (by kernel_rfl) (by kernel_rfl) (by kernel_rfl) (by kernel_rfl) (r99 word_Shl word_Shr)
theorem c93S (word_Shl : (Int × Int × Unit) → Int → Option (((Int × Int × Unit) × Unit) × (Unit))) (word_Shr : (Int × Int × Unit) → Int → Option (((Int × Int × Unit) × Unit) × (Unit))) (h99 : Contract Try.prog 99 (sm99 word_Shl)) (h93 : Contract Try.prog 93 (sm93 word_Shr)) : Contract Try.prog 93 (sm93 (word_Shr_g word_Shl word_Shr)) :=
  contract_ofAM (C := cf93 word_Shl word_Shr) (fun f sem h => (Tab.cons h99 Tab.nil : Tab _) _ (lk_mem' h)) (args := ag93) (alts := al93) (fn := Try.f93) (c := bodyOf Try.f93) (ts := [(4, some 134)]) Try.func93 (by kernel_rfl) (by kernel_rfl) (by kernel_rfl) (by kernel_rfl) (by kernel_rfl) (by kernel_rfl) (by kernel_rfl) (r93 word_Shl word_Shr)
theorem lc93 : ∀ k, Contract Try.prog 99 (sm99 ((word_Shr_lv k).1)) ∧ Contract Try.prog 93 (sm93 ((word_Shr_lv k).2))
  | 0 => ⟨(by intro avs s hs r hr w B os ow vs _ _; obtain ⟨x, hx, rfl⟩ := Option.map_eq_some_iff.1 hs; cases hr), (by intro avs s hs r hr w B os ow vs _ _; obtain ⟨x, hx, rfl⟩ := Option.map_eq_some_iff.1 hs; cases hr)⟩
  | k + 1 => by
    have ih := lc93 k
    exact ⟨c99S _ _ ih.1 ih.2, c93S _ _ ih.1 ih.2⟩
theorem c99 : Contract Try.prog 99 (sm99 word_Shl) := (lc93 3).1
theorem c93 : Contract Try.prog 93 (sm93 word_Shr) := (lc93 3).2

theorem k99 : Contract Try.prog 99 sem99 := c99

theorem k93 : Contract Try.prog 93 sem93 := c93

theorem c77 : Contract Try.prog 77 sm77 :=
  contract_ofM (C := cf77) (fun f sem h => (Tab.cons k74 (Tab.cons k56 (Tab.cons k92 (Tab.cons k91 (Tab.cons k93 Tab.nil)))) : Tab _) _ (lk_mem' h)) (S := sg77) (fn := Try.f77) (c := bodyOf Try.f77) (ts := [4]) Try.func77 (by kernel_rfl) (by kernel_rfl) (by kernel_rfl) (by kernel_rfl) (by kernel_rfl) (by kernel_rfl) (by kernel_rfl) r77

theorem k77 : Contract Try.prog 77 sem77 := c77

theorem c58 : Contract Try.prog 58 sm58 :=
  contract_ofM (C := cf58) (fun f sem h => (Tab.cons k56 (Tab.cons k77 Tab.nil) : Tab _) _ (lk_mem' h)) (S := sg58) (fn := Try.f58) (c := bodyOf Try.f58) (ts := [4]) Try.func58 (by kernel_rfl) (by kernel_rfl) (by kernel_rfl) (by kernel_rfl) (by kernel_rfl) (by kernel_rfl) (by kernel_rfl) r58

theorem k58 : Contract Try.prog 58 sem58 := c58

theorem c59 : Contract Try.prog 59 sm59 :=
  contract_ofM (C := cf59) (fun f sem h => (Tab.cons k56 Tab.nil : Tab _) _ (lk_mem' h)) (S := sg59) (fn := Try.f59) (c := bodyOf Try.f59) (ts := [4]) Try.func59 (by kernel_rfl) (by kernel_rfl) (by kernel_rfl) (by kernel_rfl) (by kernel_rfl) (by kernel_rfl) (by kernel_rfl) r59

theorem k59 : Contract Try.prog 59 sem59 := c59

theorem c35 : Contract Try.prog 35 sm35 :=
  contract_ofM (C := cf35) (fun f sem h => (Tab.cons k34 (Tab.cons k57 (Tab.cons k26 (Tab.cons k58 (Tab.cons k59 (Tab.cons k28 Tab.nil))))) : Tab _) _ (lk_mem' h)) (S := sg35) (fn := Try.f35) (c := bodyOf Try.f35) (ts := [4]) Try.func35 (by kernel_rfl) (by kernel_rfl) (by kernel_rfl) (by kernel_rfl) (by kernel_rfl) (by kernel_rfl) (by kernel_rfl) r35

theorem c35a : Contract Try.prog 35 sm35a :=
  contract_ofM (C := cf35a) (fun f sem h => (Tab.cons k34 (Tab.cons k57 (Tab.cons k26 (Tab.cons k58 (Tab.cons k59 (Tab.cons k28 Tab.nil))))) : Tab _) _ (lk_mem' h)) (S := sg35a) (fn := Try.f35) (c := bodyOf Try.f35) (ts := [4]) Try.func35 (by kernel_rfl) (by kernel_rfl) (by kernel_rfl) (by kernel_rfl) (by kernel_rfl) (by kernel_rfl) (by kernel_rfl) r35a

theorem k35 : Contract Try.prog 35 sem35 := contract_or c35 (c35a)

theorem c13 : Contract Try.prog 13 sm13 :=
  contract_ofM (C := cf13) (fun f sem h => (Tab.cons k32 (Tab.cons k34 (Tab.cons k35 Tab.nil)) : Tab _) _ (lk_mem' h)) (S := sg13) (fn := Try.f13) (c := bodyOf Try.f13) (ts := [2, 3]) Try.func13 (by kernel_rfl) (by kernel_rfl) (by kernel_rfl) (by kernel_rfl) (by kernel_rfl) (by kernel_rfl) (by kernel_rfl) r13

theorem c13a : Contract Try.prog 13 sm13a :=
  contract_ofM (C := cf13a) (fun f sem h => (Tab.cons k32 (Tab.cons k34 (Tab.cons k35 Tab.nil)) : Tab _) _ (lk_mem' h)) (S := sg13a) (fn := Try.f13) (c := bodyOf Try.f13) (ts := [2, 3]) Try.func13 (by kernel_rfl) (by kernel_rfl) (by kernel_rfl) (by kernel_rfl) (by kernel_rfl) (by kernel_rfl) (by kernel_rfl) r13a

theorem k13 : Contract Try.prog 13 sem13 := contract_or c13 (c13a)

theorem c9 : Contract Try.prog 9 sm9 :=
  contract_ofM (C := cf9) (fun f sem h => (Tab.cons k13 Tab.nil : Tab _) _ (lk_mem' h)) (S := sg9) (fn := Try.f9) (c := bodyOf Try.f9) (ts := [0]) Try.func9 (by kernel_rfl) (by kernel_rfl) (by kernel_rfl) (by kernel_rfl) (by kernel_rfl) (by kernel_rfl) (by kernel_rfl) r9

theorem k9 : Contract Try.prog 9 sem9 := c9

theorem c70 : Contract Try.prog 70 sm70 :=
  contract_ofAM (C := cf70) (fun f sem h => (Tab.nil : Tab _) _ (lk_mem' h)) (args := ag70) (alts := al70) (fn := Try.f70) (c := bodyOf Try.f70) (ts := [(4, some 115)]) Try.func70 (by kernel_rfl) (by kernel_rfl) (by kernel_rfl) (by kernel_rfl) (by kernel_rfl) (by kernel_rfl) (by kernel_rfl) r70

theorem k70 : Contract Try.prog 70 sem70 := c70

theorem c69 : Contract Try.prog 69 sm69 :=
  contract_ofM (C := cf69) (fun f sem h => (Tab.nil : Tab _) _ (lk_mem' h)) (S := sg69) (fn := Try.f69) (c := bodyOf Try.f69) (ts := [2]) Try.func69 (by kernel_rfl) (by kernel_rfl) (by kernel_rfl) (by kernel_rfl) (by kernel_rfl) (by kernel_rfl) (by kernel_rfl) r69

theorem k69 : Contract Try.prog 69 sem69 := c69

theorem c48 : Contract Try.prog 48 sm48 :=
  contract_ofM (C := cf48) (fun f sem h => (Tab.cons k70 (Tab.cons k69 Tab.nil) : Tab _) _ (lk_mem' h)) (S := sg48) (fn := Try.f48) (c := bodyOf Try.f48) (ts := [2]) Try.func48 (by kernel_rfl) (by kernel_rfl) (by kernel_rfl) (by kernel_rfl) (by kernel_rfl) (by kernel_rfl) (by kernel_rfl) r48

theorem k48 : Contract Try.prog 48 sem48 := c48

theorem c21 : Contract Try.prog 21 sm21 :=
  contract_ofM (C := cf21) (fun f sem h => (Tab.cons k48 Tab.nil : Tab _) _ (lk_mem' h)) (S := sg21) (fn := Try.f21) (c := bodyOf Try.f21) (ts := [4]) Try.func21 (by kernel_rfl) (by kernel_rfl) (by kernel_rfl) (by kernel_rfl) (by kernel_rfl) (by kernel_rfl) (by kernel_rfl) r21

theorem k21 : Contract Try.prog 21 sem21 := c21

theorem c22 : Contract Try.prog 22 sm22 :=
  contract_ofM (C := cf22) (fun f sem h => (Tab.nil : Tab _) _ (lk_mem' h)) (S := sg22) (fn := Try.f22) (c := bodyOf Try.f22) (ts := [4]) Try.func22 (by kernel_rfl) (by kernel_rfl) (by kernel_rfl) (by kernel_rfl) (by kernel_rfl) (by kernel_rfl) (by kernel_rfl) r22

theorem k22 : Contract Try.prog 22 sem22 := c22

theorem c10 : Contract Try.prog 10 sm10 :=
  contract_ofM (C := cf10) (fun f sem h => (Tab.cons k21 (Tab.cons k22 Tab.nil) : Tab _) _ (lk_mem' h)) (S := sg10) (fn := Try.f10) (c := bodyOf Try.f10) (ts := [2]) Try.func10 (by kernel_rfl) (by kernel_rfl) (by kernel_rfl) (by kernel_rfl) (by kernel_rfl) (by kernel_rfl) (by kernel_rfl) r10

theorem k10 : Contract Try.prog 10 sem10 := c10

theorem c52 : Contract Try.prog 52 sm52 :=
  contract_ofM (C := cf52) (fun f sem h => (Tab.cons k70 Tab.nil : Tab _) _ (lk_mem' h)) (S := sg52) (fn := Try.f52) (c := bodyOf Try.f52) (ts := [2]) Try.func52 (by kernel_rfl) (by kernel_rfl) (by kernel_rfl) (by kernel_rfl) (by kernel_rfl) (by kernel_rfl) (by kernel_rfl) r52

theorem k52 : Contract Try.prog 52 sem52 := c52

theorem c53 : Contract Try.prog 53 sm53 :=
  contract_ofM (C := cf53) (fun f sem h => (Tab.nil : Tab _) _ (lk_mem' h)) (S := sg53) (fn := Try.f53) (c := bodyOf Try.f53) (ts := [2]) Try.func53 (by kernel_rfl) (by kernel_rfl) (by kernel_rfl) (by kernel_rfl) (by kernel_rfl) (by kernel_rfl) (by kernel_rfl) r53

theorem k53 : Contract Try.prog 53 sem53 := c53

theorem c30 : Contract Try.prog 30 sm30 :=
  contract_ofM (C := cf30) (fun f sem h => (Tab.cons k52 (Tab.cons k53 Tab.nil) : Tab _) _ (lk_mem' h)) (S := sg30) (fn := Try.f30) (c := bodyOf Try.f30) (ts := [4]) Try.func30 (by kernel_rfl) (by kernel_rfl) (by kernel_rfl) (by kernel_rfl) (by kernel_rfl) (by kernel_rfl) (by kernel_rfl) r30

theorem k30 : Contract Try.prog 30 sem30 := c30

theorem c75 : Contract Try.prog 75 sm75 :=
  contract_ofM (C := cf75) (fun f sem h => (Tab.cons k52 Tab.nil : Tab _) _ (lk_mem' h)) (S := sg75) (fn := Try.f75) (c := bodyOf Try.f75) (ts := [2]) Try.func75 (by kernel_rfl) (by kernel_rfl) (by kernel_rfl) (by kernel_rfl) (by kernel_rfl) (by kernel_rfl) (by kernel_rfl) r75

theorem k75 : Contract Try.prog 75 sem75 := c75

theorem c54 : Contract Try.prog 54 sm54 :=
  contract_ofM (C := cf54) (fun f sem h => (Tab.cons k48 (Tab.cons k75 (Tab.cons k53 Tab.nil)) : Tab _) _ (lk_mem' h)) (S := sg54) (fn := Try.f54) (c := bodyOf Try.f54) (ts := [2]) Try.func54 (by kernel_rfl) (by kernel_rfl) (by kernel_rfl) (by kernel_rfl) (by kernel_rfl) (by kernel_rfl) (by kernel_rfl) r54

theorem k54 : Contract Try.prog 54 sem54 := c54

theorem c31 : Contract Try.prog 31 sm31 :=
  contract_ofM (C := cf31) (fun f sem h => (Tab.cons k30 (Tab.cons k54 Tab.nil) : Tab _) _ (lk_mem' h)) (S := sg31) (fn := Try.f31) (c := bodyOf Try.f31) (ts := [2]) Try.func31 (by kernel_rfl) (by kernel_rfl) (by kernel_rfl) (by kernel_rfl) (by kernel_rfl) (by kernel_rfl) (by kernel_rfl) r31

theorem k31 : Contract Try.prog 31 sem31 := c31

theorem c12 : Contract Try.prog 12 sm12 :=
  contract_ofM (C := cf12) (fun f sem h => (Tab.cons k30 (Tab.cons k31 Tab.nil) : Tab _) _ (lk_mem' h)) (S := sg12) (fn := Try.f12) (c := bodyOf Try.f12) (ts := [2]) Try.func12 (by kernel_rfl) (by kernel_rfl) (by kernel_rfl) (by kernel_rfl) (by kernel_rfl) (by kernel_rfl) (by kernel_rfl) r12

theorem k12 : Contract Try.prog 12 sem12 := c12

theorem c3 : Contract Try.prog 3 sm3 :=
  contract_ofM (C := cf3) (fun f sem h => (Tab.cons k8 (Tab.cons k9 (Tab.cons k10 (Tab.cons k11 (Tab.cons k12 (Tab.cons k13 Tab.nil))))) : Tab _) _ (lk_mem' h)) (S := sg3) (fn := Try.f3) (c := bodyOf Try.f3) (ts := [2]) Try.func3 (by kernel_rfl) (by kernel_rfl) (by kernel_rfl) (by kernel_rfl) (by kernel_rfl) (by kernel_rfl) (by kernel_rfl) r3

theorem k3 : Contract Try.prog 3 sem3 := c3

theorem c36 : Contract Try.prog 36 sm36 :=
  contract_ofM (C := cf36) (fun f sem h => (Tab.nil : Tab _) _ (lk_mem' h)) (S := sg36) (fn := Try.f36) (c := bodyOf Try.f36) (ts := [4]) Try.func36 (by kernel_rfl) (by kernel_rfl) (by kernel_rfl) (by kernel_rfl) (by kernel_rfl) (by kernel_rfl) (by kernel_rfl) r36

theorem k36 : Contract Try.prog 36 sem36 := c36

theorem c37 : Contract Try.prog 37 sm37 :=
  contract_ofM (C := cf37) (fun f sem h => (Tab.cons k36 Tab.nil : Tab _) _ (lk_mem' h)) (S := sg37) (fn := Try.f37) (c := bodyOf Try.f37) (ts := [4]) Try.func37 (by kernel_rfl) (by kernel_rfl) (by kernel_rfl) (by kernel_rfl) (by kernel_rfl) (by kernel_rfl) (by kernel_rfl) r37

theorem k37 : Contract Try.prog 37 sem37 := c37

theorem c38 : Contract Try.prog 38 sm38 :=
  contract_ofM (C := cf38) (fun f sem h => (Tab.nil : Tab _) _ (lk_mem' h)) (S := sg38) (fn := Try.f38) (c := bodyOf Try.f38) (ts := [4]) Try.func38 (by kernel_rfl) (by kernel_rfl) (by kernel_rfl) (by kernel_rfl) (by kernel_rfl) (by kernel_rfl) (by kernel_rfl) r38

theorem k38 : Contract Try.prog 38 sem38 := c38

theorem c14 : Contract Try.prog 14 sm14 :=
  contract_ofM (C := cf14) (fun f sem h => (Tab.cons k36 (Tab.cons k37 (Tab.cons k38 Tab.nil)) : Tab _) _ (lk_mem' h)) (S := sg14) (fn := Try.f14) (c := bodyOf Try.f14) (ts := [4]) Try.func14 (by kernel_rfl) (by kernel_rfl) (by kernel_rfl) (by kernel_rfl) (by kernel_rfl) (by kernel_rfl) (by kernel_rfl) r14

theorem k14 : Contract Try.prog 14 sem14 := c14

theorem c39 : Contract Try.prog 39 sm39 :=
  contract_ofM (C := cf39) (fun f sem h => (Tab.nil : Tab _) _ (lk_mem' h)) (S := sg39) (fn := Try.f39) (c := bodyOf Try.f39) (ts := [4]) Try.func39 (by kernel_rfl) (by kernel_rfl) (by kernel_rfl) (by kernel_rfl) (by kernel_rfl) (by kernel_rfl) (by kernel_rfl) r39

theorem k39 : Contract Try.prog 39 sem39 := c39

theorem c15 : Contract Try.prog 15 sm15 :=
  contract_ofM (C := cf15) (fun f sem h => (Tab.cons k39 Tab.nil : Tab _) _ (lk_mem' h)) (S := sg15) (fn := Try.f15) (c := bodyOf Try.f15) (ts := [4]) Try.func15 (by kernel_rfl) (by kernel_rfl) (by kernel_rfl) (by kernel_rfl) (by kernel_rfl) (by kernel_rfl) (by kernel_rfl) r15

theorem k15 : Contract Try.prog 15 sem15 := c15

theorem c40 : Contract Try.prog 40 sm40 :=
  contract_ofM (C := cf40) (fun f sem h => (Tab.nil : Tab _) _ (lk_mem' h)) (S := sg40) (fn := Try.f40) (c := bodyOf Try.f40) (ts := [2]) Try.func40 (by kernel_rfl) (by kernel_rfl) (by kernel_rfl) (by kernel_rfl) (by kernel_rfl) (by kernel_rfl) (by kernel_rfl) r40

theorem k40 : Contract Try.prog 40 sem40 := c40

theorem c41 : Contract Try.prog 41 sm41 :=
  contract_ofM (C := cf41) (fun f sem h => (Tab.nil : Tab _) _ (lk_mem' h)) (S := sg41) (fn := Try.f41) (c := bodyOf Try.f41) (ts := [2]) Try.func41 (by kernel_rfl) (by kernel_rfl) (by kernel_rfl) (by kernel_rfl) (by kernel_rfl) (by kernel_rfl) (by kernel_rfl) r41

theorem k41 : Contract Try.prog 41 sem41 := c41

theorem c16 : Contract Try.prog 16 sm16 :=
  contract_ofAM (C := cf16) (fun f sem h => (Tab.cons k40 (Tab.cons k41 Tab.nil) : Tab _) _ (lk_mem' h)) (args := ag16) (alts := al16) (fn := Try.f16) (c := bodyOf Try.f16) (ts := [(2, some 35)]) Try.func16 (by kernel_rfl) (by kernel_rfl) (by kernel_rfl) (by kernel_rfl) (by kernel_rfl) (by kernel_rfl) (by kernel_rfl) r16

theorem k16 : Contract Try.prog 16 sem16 := c16

theorem c4 : Contract Try.prog 4 sm4 :=
  contract_ofM (C := cf4) (fun f sem h => (Tab.cons k8 (Tab.cons k9 (Tab.cons k14 (Tab.cons k15 (Tab.cons k16 Tab.nil)))) : Tab _) _ (lk_mem' h)) (S := sg4) (fn := Try.f4) (c := bodyOf Try.f4) (ts := [4]) Try.func4 (by kernel_rfl) (by kernel_rfl) (by kernel_rfl) (by kernel_rfl) (by kernel_rfl) (by kernel_rfl) (by kernel_rfl) r4

theorem k4 : Contract Try.prog 4 sem4 := c4

theorem c43 : Contract Try.prog 43 sm43 :=
  contract_ofM (C := cf43) (fun f sem h => (Tab.cons k63 Tab.nil : Tab _) _ (lk_mem' h)) (S := sg43) (fn := Try.f43) (c := bodyOf Try.f43) (ts := [2]) Try.func43 (by kernel_rfl) (by kernel_rfl) (by kernel_rfl) (by kernel_rfl) (by kernel_rfl) (by kernel_rfl) (by kernel_rfl) r43

theorem k43 : Contract Try.prog 43 sem43 := c43

theorem c83 : Contract Try.prog 83 sm83 :=
  contract_ofM (C := cf83) (fun f sem h => (Tab.nil : Tab _) _ (lk_mem' h)) (S := sg83) (fn := Try.f83) (c := bodyOf Try.f83) (ts := [4, 5]) Try.func83 (by kernel_rfl) (by kernel_rfl) (by kernel_rfl) (by kernel_rfl) (by kernel_rfl) (by kernel_rfl) (by kernel_rfl) r83

theorem c83a : Contract Try.prog 83 sm83a :=
  contract_ofM (C := cf83a) (fun f sem h => (Tab.nil : Tab _) _ (lk_mem' h)) (S := sg83a) (fn := Try.f83) (c := bodyOf Try.f83) (ts := [4, 5]) Try.func83 (by kernel_rfl) (by kernel_rfl) (by kernel_rfl) (by kernel_rfl) (by kernel_rfl) (by kernel_rfl) (by kernel_rfl) r83a

theorem k83 : Contract Try.prog 83 sem83 := contract_or c83 (c83a)

theorem c84 : Contract Try.prog 84 sm84 :=
  contract_ofM (C := cf84) (fun f sem h => (Tab.nil : Tab _) _ (lk_mem' h)) (S := sg84) (fn := Try.f84) (c := bodyOf Try.f84) (ts := []) Try.func84 (by kernel_rfl) (by kernel_rfl) (by kernel_rfl) (by kernel_rfl) (by kernel_rfl) (by kernel_rfl) (by kernel_rfl) r84

theorem c84a : Contract Try.prog 84 sm84a :=
  contract_ofM (C := cf84a) (fun f sem h => (Tab.nil : Tab _) _ (lk_mem' h)) (S := sg84a) (fn := Try.f84) (c := bodyOf Try.f84) (ts := []) Try.func84 (by kernel_rfl) (by kernel_rfl) (by kernel_rfl) (by kernel_rfl) (by kernel_rfl) (by kernel_rfl) (by kernel_rfl) r84a

theorem k84 : Contract Try.prog 84 sem84 := contract_or c84 (c84a)

theorem c64 : Contract Try.prog 64 sm64 :=
  contract_ofM (C := cf64) (fun f sem h => (Tab.cons k83 (Tab.cons k84 Tab.nil) : Tab _) _ (lk_mem' h)) (S := sg64) (fn := Try.f64) (c := bodyOf Try.f64) (ts := [6]) Try.func64 (by kernel_rfl) (by kernel_rfl) (by kernel_rfl) (by kernel_rfl) (by kernel_rfl) (by kernel_rfl) (by kernel_rfl) r64

theorem c64a : Contract Try.prog 64 sm64a :=
  contract_ofM (C := cf64a) (fun f sem h => (Tab.cons k83 (Tab.cons k84 Tab.nil) : Tab _) _ (lk_mem' h)) (S := sg64a) (fn := Try.f64) (c := bodyOf Try.f64) (ts := [6]) Try.func64 (by kernel_rfl) (by kernel_rfl) (by kernel_rfl) (by kernel_rfl) (by kernel_rfl) (by kernel_rfl) (by kernel_rfl) r64a

theorem k64 : Contract Try.prog 64 sem64 := contract_or c64 (c64a)

theorem c44 : Contract Try.prog 44 sm44 :=
  contract_ofM (C := cf44) (fun f sem h => (Tab.cons k64 Tab.nil : Tab _) _ (lk_mem' h)) (S := sg44) (fn := Try.f44) (c := bodyOf Try.f44) (ts := [4]) Try.func44 (by kernel_rfl) (by kernel_rfl) (by kernel_rfl) (by kernel_rfl) (by kernel_rfl) (by kernel_rfl) (by kernel_rfl) r44

theorem c44a : Contract Try.prog 44 sm44a :=
  contract_ofM (C := cf44a) (fun f sem h => (Tab.cons k64 Tab.nil : Tab _) _ (lk_mem' h)) (S := sg44a) (fn := Try.f44) (c := bodyOf Try.f44) (ts := [4]) Try.func44 (by kernel_rfl) (by kernel_rfl) (by kernel_rfl) (by kernel_rfl) (by kernel_rfl) (by kernel_rfl) (by kernel_rfl) r44a

theorem k44 : Contract Try.prog 44 sem44 := contract_or c44 (c44a)

theorem c96 : Contract Try.prog 96 sm96 :=
  contract_ofM (C := cf96) (fun f sem h => (Tab.cons k84 Tab.nil : Tab _) _ (lk_mem' h)) (S := sg96) (fn := Try.f96) (c := bodyOf Try.f96) (ts := []) Try.func96 (by kernel_rfl) (by kernel_rfl) (by kernel_rfl) (by kernel_rfl) (by kernel_rfl) (by kernel_rfl) (by kernel_rfl) r96

theorem k96 : Contract Try.prog 96 sem96 := c96

theorem c85 : Contract Try.prog 85 sm85 :=
  contract_ofM (C := cf85) (fun f sem h => (Tab.cons k44 (Tab.cons k96 Tab.nil) : Tab _) _ (lk_mem' h)) (S := sg85) (fn := Try.f85) (c := bodyOf Try.f85) (ts := [4]) Try.func85 (by kernel_rfl) (by kernel_rfl) (by kernel_rfl) (by kernel_rfl) (by kernel_rfl) (by kernel_rfl) (by kernel_rfl) r85

theorem k85 : Contract Try.prog 85 sem85 := c85

theorem c65 : Contract Try.prog 65 sm65 :=
  contract_ofM (C := cf65) (fun f sem h => (Tab.cons k85 (Tab.cons k44 Tab.nil) : Tab _) _ (lk_mem' h)) (S := sg65) (fn := Try.f65) (c := bodyOf Try.f65) (ts := [6]) Try.func65 (by kernel_rfl) (by kernel_rfl) (by kernel_rfl) (by kernel_rfl) (by kernel_rfl) (by kernel_rfl) (by kernel_rfl) r65

theorem k65 : Contract Try.prog 65 sem65 := c65

theorem c101 : Contract Try.prog 101 sm101 :=
  contract_ofAM (C := cf101) (fun f sem h => (Tab.nil : Tab _) _ (lk_mem' h)) (args := ag101) (alts := al101) (fn := Try.f101) (c := bodyOf Try.f101) (ts := [(4, some 134)]) Try.func101 (by kernel_rfl) (by kernel_rfl) (by kernel_rfl) (by kernel_rfl) (by kernel_rfl) (by kernel_rfl) (by kernel_rfl) r101

theorem k101 : Contract Try.prog 101 sem101 := c101

theorem c102 : Contract Try.prog 102 sm102 :=
  contract_ofAM (C := cf102) (fun f sem h => (Tab.cons k89 (Tab.cons k74 Tab.nil) : Tab _) _ (lk_mem' h)) (args := ag102) (alts := al102) (fn := Try.f102) (c := bodyOf Try.f102) (ts := [(6, some 44), (7, none)]) Try.func102 (by kernel_rfl) (by kernel_rfl) (by kernel_rfl) (by kernel_rfl) (by kernel_rfl) (by kernel_rfl) (by kernel_rfl) r102

theorem k102 : Contract Try.prog 102 sem102 := c102

theorem c97 : Contract Try.prog 97 sm97 :=
  contract_ofAM (C := cf97) (fun f sem h => (Tab.cons k44 (Tab.cons k96 (Tab.cons k92 (Tab.cons k83 (Tab.cons k99 (Tab.cons k101 (Tab.cons k102 Tab.nil)))))) : Tab _) _ (lk_mem' h)) (args := ag97) (alts := al97) (fn := Try.f97) (c := bodyOf Try.f97) (ts := [(2, some 44)]) Try.func97 (by kernel_rfl) (by kernel_rfl) (by kernel_rfl) (by kernel_rfl) (by kernel_rfl) (by kernel_rfl) (by kernel_rfl) r97

theorem k97 : Contract Try.prog 97 sem97 := c97

theorem c86 : Contract Try.prog 86 sm86 :=
  contract_ofM (C := cf86) (fun f sem h => (Tab.cons k85 (Tab.cons k97 Tab.nil) : Tab _) _ (lk_mem' h)) (S := sg86) (fn := Try.f86) (c := bodyOf Try.f86) (ts := [4]) Try.func86 (by kernel_rfl) (by kernel_rfl) (by kernel_rfl) (by kernel_rfl) (by kernel_rfl) (by kernel_rfl) (by kernel_rfl) r86

theorem k86 : Contract Try.prog 86 sem86 := c86

theorem c87 : Contract Try.prog 87 sm87 :=
  contract_ofM (C := cf87) (fun f sem h => (Tab.cons k64 Tab.nil : Tab _) _ (lk_mem' h)) (S := sg87) (fn := Try.f87) (c := bodyOf Try.f87) (ts := [4]) Try.func87 (by kernel_rfl) (by kernel_rfl) (by kernel_rfl) (by kernel_rfl) (by kernel_rfl) (by kernel_rfl) (by kernel_rfl) r87

theorem k87 : Contract Try.prog 87 sem87 := c87

theorem c66 : Contract Try.prog 66 sm66 :=
  contract_ofAM (C := cf66) (fun f sem h => (Tab.cons k86 (Tab.cons k87 Tab.nil) : Tab _) _ (lk_mem' h)) (args := ag66) (alts := al66) (fn := Try.f66) (c := bodyOf Try.f66) (ts := [(2, some 32)]) Try.func66 (by kernel_rfl) (by kernel_rfl) (by kernel_rfl) (by kernel_rfl) (by kernel_rfl) (by kernel_rfl) (by kernel_rfl) r66

theorem k66 : Contract Try.prog 66 sem66 := c66

theorem c67 : Contract Try.prog 67 sm67 :=
  contract_ofAM (C := cf67) (fun f sem h => (Tab.cons k44 (Tab.cons k86 Tab.nil) : Tab _) _ (lk_mem' h)) (args := ag67) (alts := al67) (fn := Try.f67) (c := bodyOf Try.f67) (ts := [(2, some 30)]) Try.func67 (by kernel_rfl) (by kernel_rfl) (by kernel_rfl) (by kernel_rfl) (by kernel_rfl) (by kernel_rfl) (by kernel_rfl) r67

theorem k67 : Contract Try.prog 67 sem67 := c67

theorem c45 : Contract Try.prog 45 sm45 :=
  contract_ofAM (C := cf45) (fun f sem h => (Tab.cons k44 (Tab.cons k65 (Tab.cons k66 (Tab.cons k67 Tab.nil))) : Tab _) _ (lk_mem' h)) (args := ag45) (alts := al45) (fn := Try.f45) (c := bodyOf Try.f45) (ts := [(2, some 35)]) Try.func45 (by kernel_rfl) (by kernel_rfl) (by kernel_rfl) (by kernel_rfl) (by kernel_rfl) (by kernel_rfl) (by kernel_rfl) r45

theorem k45 : Contract Try.prog 45 sem45 := c45

theorem c46 : Contract Try.prog 46 sm46 :=
  contract_ofM (C := cf46) (fun f sem h => (Tab.nil : Tab _) _ (lk_mem' h)) (S := sg46) (fn := Try.f46) (c := bodyOf Try.f46) (ts := [2]) Try.func46 (by kernel_rfl) (by kernel_rfl) (by kernel_rfl) (by kernel_rfl) (by kernel_rfl) (by kernel_rfl) (by kernel_rfl) r46

theorem k46 : Contract Try.prog 46 sem46 := c46

theorem c68 : Contract Try.prog 68 sm68 :=
  contract_ofM (C := cf68) (fun f sem h => (Tab.nil : Tab _) _ (lk_mem' h)) (S := sg68) (fn := Try.f68) (c := bodyOf Try.f68) (ts := [2]) Try.func68 (by kernel_rfl) (by kernel_rfl) (by kernel_rfl) (by kernel_rfl) (by kernel_rfl) (by kernel_rfl) (by kernel_rfl) r68

theorem k68 : Contract Try.prog 68 sem68 := c68

theorem c47 : Contract Try.prog 47 sm47 :=
  contract_ofM (C := cf47) (fun f sem h => (Tab.cons k68 Tab.nil : Tab _) _ (lk_mem' h)) (S := sg47) (fn := Try.f47) (c := bodyOf Try.f47) (ts := [2]) Try.func47 (by kernel_rfl) (by kernel_rfl) (by kernel_rfl) (by kernel_rfl) (by kernel_rfl) (by kernel_rfl) (by kernel_rfl) r47

theorem k47 : Contract Try.prog 47 sem47 := c47

theorem c20 : Contract Try.prog 20 sm20 :=
  contract_ofM (C := cf20) (fun f sem h => (Tab.cons k43 (Tab.cons k44 (Tab.cons k45 (Tab.cons k46 (Tab.cons k47 Tab.nil)))) : Tab _) _ (lk_mem' h)) (S := sg20) (fn := Try.f20) (c := bodyOf Try.f20) (ts := [2, 3]) Try.func20 (by kernel_rfl) (by kernel_rfl) (by kernel_rfl) (by kernel_rfl) (by kernel_rfl) (by kernel_rfl) (by kernel_rfl) r20

theorem k20 : Contract Try.prog 20 sem20 := c20

theorem c17 : Contract Try.prog 17 sm17 :=
  contract_ofM (C := cf17) (fun f sem h => (Tab.cons k20 Tab.nil : Tab _) _ (lk_mem' h)) (S := sg17) (fn := Try.f17) (c := bodyOf Try.f17) (ts := [2, 3, 4]) Try.func17 (by kernel_rfl) (by kernel_rfl) (by kernel_rfl) (by kernel_rfl) (by kernel_rfl) (by kernel_rfl) (by kernel_rfl) r17

theorem k17 : Contract Try.prog 17 sem17 := c17

theorem c78 : Contract Try.prog 78 sm78 :=
  contract_ofAM (C := cf78) (fun f sem h => (Tab.nil : Tab _) _ (lk_mem' h)) (args := ag78) (alts := al78) (fn := Try.f78) (c := bodyOf Try.f78) (ts := [(6, some 97)]) Try.func78 (by kernel_rfl) (by kernel_rfl) (by kernel_rfl) (by kernel_rfl) (by kernel_rfl) (by kernel_rfl) (by kernel_rfl) r78

theorem k78 : Contract Try.prog 78 sem78 := c78

theorem c80 : Contract Try.prog 80 sm80 :=
  contract_ofM (C := cf80) (fun f sem h => (Tab.nil : Tab _) _ (lk_mem' h)) (S := sg80) (fn := Try.f80) (c := bodyOf Try.f80) (ts := [2]) Try.func80 (by kernel_rfl) (by kernel_rfl) (by kernel_rfl) (by kernel_rfl) (by kernel_rfl) (by kernel_rfl) (by kernel_rfl) r80

theorem k80 : Contract Try.prog 80 sem80 := c80

theorem c100 : Contract Try.prog 100 sm100 :=
  contract_ofM (C := cf100) (fun f sem h => (Tab.nil : Tab _) _ (lk_mem' h)) (S := sg100) (fn := Try.f100) (c := bodyOf Try.f100) (ts := [2, 3]) Try.func100 (by kernel_rfl) (by kernel_rfl) (by kernel_rfl) (by kernel_rfl) (by kernel_rfl) (by kernel_rfl) (by kernel_rfl) r100

theorem k100 : Contract Try.prog 100 sem100 := c100

theorem c94 : Contract Try.prog 94 sm94 :=
  contract_ofAM (C := cf94) (fun f sem h => (Tab.cons k100 Tab.nil : Tab _) _ (lk_mem' h)) (args := ag94) (alts := al94) (fn := Try.f94) (c := bodyOf Try.f94) (ts := [(2, some 44)]) Try.func94 (by kernel_rfl) (by kernel_rfl) (by kernel_rfl) (by kernel_rfl) (by kernel_rfl) (by kernel_rfl) (by kernel_rfl) r94

theorem k94 : Contract Try.prog 94 sem94 := c94

theorem c79 : Contract Try.prog 79 sm79 :=
  contract_ofAM (C := cf79) (fun f sem h => (Tab.cons k94 Tab.nil : Tab _) _ (lk_mem' h)) (args := ag79) (alts := al79) (fn := Try.f79) (c := bodyOf Try.f79) (ts := [(2, some 44)]) Try.func79 (by kernel_rfl) (by kernel_rfl) (by kernel_rfl) (by kernel_rfl) (by kernel_rfl) (by kernel_rfl) (by kernel_rfl) r79

theorem k79 : Contract Try.prog 79 sem79 := c79

theorem c60 : Contract Try.prog 60 sm60 :=
  contract_ofAM (C := cf60) (fun f sem h => (Tab.cons k78 (Tab.cons k80 (Tab.cons k79 Tab.nil)) : Tab _) _ (lk_mem' h)) (args := ag60) (alts := al60) (fn := Try.f60) (c := bodyOf Try.f60) (ts := [(6, some 97), (7, none)]) Try.func60 (by kernel_rfl) (by kernel_rfl) (by kernel_rfl) (by kernel_rfl) (by kernel_rfl) (by kernel_rfl) (by kernel_rfl) r60

theorem k60 : Contract Try.prog 60 sem60 := c60

theorem c81 : Contract Try.prog 81 sm81 :=
  contract_ofAM (C := cf81) (fun f sem h => (Tab.cons k60 (Tab.cons k78 Tab.nil) : Tab _) _ (lk_mem' h)) (args := ag81) (alts := al81) (fn := Try.f81) (c := bodyOf Try.f81) (ts := [(4, some 97), (5, none)]) Try.func81 (by kernel_rfl) (by kernel_rfl) (by kernel_rfl) (by kernel_rfl) (by kernel_rfl) (by kernel_rfl) (by kernel_rfl) r81

theorem k81 : Contract Try.prog 81 sem81 := c81

theorem c95 : Contract Try.prog 95 sm95 :=
  contract_ofAM (C := cf95) (fun f sem h => (Tab.cons k60 (Tab.cons k78 (Tab.cons k80 (Tab.cons k79 Tab.nil))) : Tab _) _ (lk_mem' h)) (args := ag95) (alts := al95) (fn := Try.f95) (c := bodyOf Try.f95) (ts := [(2, some 97), (3, some 44)]) Try.func95 (by kernel_rfl) (by kernel_rfl) (by kernel_rfl) (by kernel_rfl) (by kernel_rfl) (by kernel_rfl) (by kernel_rfl) r95

theorem k95 : Contract Try.prog 95 sem95 := c95

theorem c82 : Contract Try.prog 82 sm82 :=
  contract_ofAM (C := cf82) (fun f sem h => (Tab.cons k81 (Tab.cons k95 Tab.nil) : Tab _) _ (lk_mem' h)) (args := ag82) (alts := al82) (fn := Try.f82) (c := bodyOf Try.f82) (ts := [(4, some 97), (5, none)]) Try.func82 (by kernel_rfl) (by kernel_rfl) (by kernel_rfl) (by kernel_rfl) (by kernel_rfl) (by kernel_rfl) (by kernel_rfl) r82

theorem k82 : Contract Try.prog 82 sem82 := c82

theorem c61 : Contract Try.prog 61 sm61 :=
  contract_ofAM (C := cf61) (fun f sem h => (Tab.cons k60 (Tab.cons k81 (Tab.cons k82 Tab.nil)) : Tab _) _ (lk_mem' h)) (args := ag61) (alts := al61) (fn := Try.f61) (c := bodyOf Try.f61) (ts := [(2, some 97), (3, some 35)]) Try.func61 (by kernel_rfl) (by kernel_rfl) (by kernel_rfl) (by kernel_rfl) (by kernel_rfl) (by kernel_rfl) (by kernel_rfl) r61

theorem k61 : Contract Try.prog 61 sem61 := c61

theorem c62 : Contract Try.prog 62 sm62 :=
  contract_ofM (C := cf62) (fun f sem h => (Tab.nil : Tab _) _ (lk_mem' h)) (S := sg62) (fn := Try.f62) (c := bodyOf Try.f62) (ts := [2, 3]) Try.func62 (by kernel_rfl) (by kernel_rfl) (by kernel_rfl) (by kernel_rfl) (by kernel_rfl) (by kernel_rfl) (by kernel_rfl) r62

theorem k62 : Contract Try.prog 62 sem62 := c62

theorem c42 : Contract Try.prog 42 sm42 :=
  contract_ofM (C := cf42) (fun f sem h => (Tab.cons k60 (Tab.cons k61 (Tab.cons k62 Tab.nil)) : Tab _) _ (lk_mem' h)) (S := sg42) (fn := Try.f42) (c := bodyOf Try.f42) (ts := [2, 3, 4]) Try.func42 (by kernel_rfl) (by kernel_rfl) (by kernel_rfl) (by kernel_rfl) (by kernel_rfl) (by kernel_rfl) (by kernel_rfl) r42

theorem k42 : Contract Try.prog 42 sem42 := c42

theorem c18 : Contract Try.prog 18 sm18 :=
  contract_ofM (C := cf18) (fun f sem h => (Tab.cons k42 Tab.nil : Tab _) _ (lk_mem' h)) (S := sg18) (fn := Try.f18) (c := bodyOf Try.f18) (ts := [2, 3, 4, 5]) Try.func18 (by kernel_rfl) (by kernel_rfl) (by kernel_rfl) (by kernel_rfl) (by kernel_rfl) (by kernel_rfl) (by kernel_rfl) r18

theorem k18 : Contract Try.prog 18 sem18 := c18

theorem c19 : Contract Try.prog 19 sm19 :=
  contract_ofM (C := cf19) (fun f sem h => (Tab.nil : Tab _) _ (lk_mem' h)) (S := sg19) (fn := Try.f19) (c := bodyOf Try.f19) (ts := [2, 3]) Try.func19 (by kernel_rfl) (by kernel_rfl) (by kernel_rfl) (by kernel_rfl) (by kernel_rfl) (by kernel_rfl) (by kernel_rfl) r19

theorem k19 : Contract Try.prog 19 sem19 := c19

theorem c5 : Contract Try.prog 5 sm5 :=
  contract_ofM (C := cf5) (fun f sem h => (Tab.cons k9 (Tab.cons k17 (Tab.cons k18 (Tab.cons k19 (Tab.cons k20 (Tab.cons k15 Tab.nil))))) : Tab _) _ (lk_mem' h)) (S := sg5) (fn := Try.f5) (c := bodyOf Try.f5) (ts := [2]) Try.func5 (by kernel_rfl) (by kernel_rfl) (by kernel_rfl) (by kernel_rfl) (by kernel_rfl) (by kernel_rfl) (by kernel_rfl) r5

theorem k5 : Contract Try.prog 5 sem5 := c5

theorem c6 : Contract Try.prog 6 sm6 :=
  contract_ofM (C := cf6) (fun f sem h => (Tab.cons k8 (Tab.cons k9 (Tab.cons k13 (Tab.cons k17 (Tab.cons k19 (Tab.cons k12 Tab.nil))))) : Tab _) _ (lk_mem' h)) (S := sg6) (fn := Try.f6) (c := bodyOf Try.f6) (ts := [4]) Try.func6 (by kernel_rfl) (by kernel_rfl) (by kernel_rfl) (by kernel_rfl) (by kernel_rfl) (by kernel_rfl) (by kernel_rfl) r6

theorem k6 : Contract Try.prog 6 sem6 := c6

end Go.Proofs.Ytplljenbabhjbaa
