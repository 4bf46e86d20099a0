/- The functions of this seat, and the laws as plain Lean. -/
import Derived.Test.YtgaeodfbejbbeaaProg
import Derived.Test.YtgaeodfbejbbeaaQ6

set_option linter.unusedSimpArgs false
set_option linter.unusedVariables false

namespace Go.Proofs.Ytgaeodfbejbbeaa
open Go Go.Pv Go.Proofs Go.L
set_option maxRecDepth 100000

noncomputable def bodyOf (f : Func) : Code := match f.body with | some c => c | none => .skip
noncomputable def cf (tab : List (Nat × CSem)) (nt nob : Nat) (ann : List (Nat × Shape)) : Cfg := ⟨Try.prog, fun f => lk f tab, nt, nob, fun n => lk n ann, false⟩
noncomputable def cfs (tab : List (Nat × CSem)) (nt nob : Nat) (ann : List (Nat × Shape)) : Cfg := ⟨Try.prog, fun f => lk f tab, nt, nob, fun n => lk n ann, true⟩
def Tab (tab : List (Nat × CSem)) : Prop := ∀ q ∈ tab, Contract Try.prog q.1 q.2
theorem Tab.nil : Tab [] := fun q h => by cases h
theorem Tab.cons {f : Nat} {sem : CSem} {l : List (Nat × CSem)} (h : Contract Try.prog f sem) (t : Tab l) : Tab ((f, sem) :: l) := fun q hq => by
  rcases List.mem_cons.1 hq with rfl | hq
  · exact h
  · exact t q hq

noncomputable def sg8 : Sig := ⟨[], [.own (.own (.agg (.pair .str (.pair (.int .i64) (.pair (.int .i64) (.pair (.int .i64) (.pair (.agg (.arr 2 (.int .i64))) (.pair (.agg (.arr 2 (.int .i64))) (.pair .str .unit)))))))))], []⟩
noncomputable def sm8 : CSem := mkSem sg8 fun x => ref09_Table
noncomputable def cf8 : Cfg := cfs [] 79 0 []

noncomputable def sem8 : CSem := sm8

noncomputable def sg24 : Sig := ⟨[], [.own (.own .str)], []⟩
noncomputable def sm24 : CSem := mkSem sg24 fun x => code_names
noncomputable def cf24 : Cfg := cfs [] 2 0 []

noncomputable def sem24 : CSem := sm24

noncomputable def sg23 : Sig := ⟨[.val (.slice .str), .val .str], [.val (.int .i64)], []⟩
noncomputable def sm23 : CSem := mkSem sg23 fun x => slices_Index_string_string x.1 x.2.1
noncomputable def cf23 : Cfg := cfs [] 19 0 [(0, ⟨[(0, .dat (.slice .str)), (1, .dat .str), (7, .dat (.int .i64)), (8, .dat (.int .i64))], []⟩)]

noncomputable def sem23 : CSem := sm23

noncomputable def sg9 : Sig := ⟨[.val .str], [.val (.int .i64), .val .bool], []⟩
noncomputable def sm9 : CSem := mkSem sg9 fun x => code_Find x.1
noncomputable def cf9 : Cfg := cfs [(24, sem24), (23, sem23)] 12 0 []

noncomputable def sem9 : CSem := sm9

noncomputable def sg25 : Sig := ⟨[.val (.int .i64)], [.val .bool], []⟩
noncomputable def sm25 : CSem := mkSem sg25 fun x => code_known x.1
noncomputable def cf25 : Cfg := cfs [] 9 0 []

noncomputable def sem25 : CSem := sm25

noncomputable def sg10 : Sig := ⟨[.val (.int .i64)], [.val .str], []⟩
noncomputable def sm10 : CSem := mkSem sg10 fun x => code_Name x.1
noncomputable def cf10 : Cfg := cfs [(25, sem25), (24, sem24)] 10 0 []

noncomputable def sem10 : CSem := sm10

noncomputable def ag37 : List AK := [.val (.int .i64), .val (.int .i64), .val (.int .i64), .val (.int .i64), .val (.int .i64)]
noncomputable def al37 : List Alt := [([.val (.agg (.pair .bool (.pair .bool (.pair (.int .i64) (.pair (.int .i64) (.pair (.int .i64) (.pair (.int .i64) (.pair (.int .i64) (.pair (.int .i64) .unit)))))))))], [])]
noncomputable def sm37 : CSem := mkSemA ag37 al37 fun x => code_both x.1 x.2.1 x.2.2.1 x.2.2.2.1 x.2.2.2.2.1
noncomputable def cf37 : Cfg := cfs [] 17 0 []

noncomputable def sem37 : CSem := sm37

noncomputable def ag38 : List AK := [.val (.int .i64), .val (.int .i64), .val (.int .i64), .val (.int .i64)]
noncomputable def al38 : List Alt := [([.val (.agg (.pair .bool (.pair .bool (.pair (.int .i64) (.pair (.int .i64) (.pair (.int .i64) (.pair (.int .i64) (.pair (.int .i64) (.pair (.int .i64) .unit)))))))))], [])]
noncomputable def sm38 : CSem := mkSemA ag38 al38 fun x => code_alone x.1 x.2.1 x.2.2.1 x.2.2.2.1
noncomputable def cf38 : Cfg := cfs [] 14 0 []

noncomputable def sem38 : CSem := sm38

noncomputable def ag26 : List AK := [.val (.int .i64)]
noncomputable def al26 : List Alt := [([.val (.agg (.pair .bool (.pair .bool (.pair (.int .i64) (.pair (.int .i64) (.pair (.int .i64) (.pair (.int .i64) (.pair (.int .i64) (.pair (.int .i64) .unit)))))))))], [])]
noncomputable def sm26 : CSem := mkSemA ag26 al26 fun x => code_shapeOf x.1
noncomputable def cf26 : Cfg := cfs [(37, sem37), (38, sem38)] 70 0 []

noncomputable def sem26 : CSem := sm26

noncomputable def sg11 : Sig := ⟨[.val (.int .i64)], [.val (.int .i64), .val (.int .i64)], []⟩
noncomputable def sm11 : CSem := mkSem sg11 fun x => code_Effect x.1
noncomputable def cf11 : Cfg := cfs [(25, sem25), (26, sem26)] 14 0 []

noncomputable def sem11 : CSem := sm11

noncomputable def sg47 : Sig := ⟨[.val (.int .i64)], [.val .bool], []⟩
noncomputable def sm47 : CSem := mkSem sg47 fun x => vec_width x.1
noncomputable def cf47 : Cfg := cf [] 9 0 []

noncomputable def sem47 : CSem := sm47

noncomputable def ag40 : List AK := [.val (.agg (.pair (.int .i64) (.pair (.int .u64) (.pair (.int .u64) .unit))))]
noncomputable def al40 : List Alt := [([.val (.agg (.pair (.int .u64) (.pair (.int .u64) .unit)))], [])]
noncomputable def sm40 : CSem := mkSemA ag40 al40 fun x => vec_Word x.1
noncomputable def cf40 : Cfg := cf [] 8 0 []

noncomputable def sem40 : CSem := sm40

noncomputable def sg56 : Sig := ⟨[.val (.int .u64)], [.val (.int .i64)], []⟩
noncomputable def sm56 : CSem := mkSem sg56 fun x => bits_Len64 x.1
noncomputable def cf56 : Cfg := cf [] 25 0 []

noncomputable def sem56 : CSem := sm56

noncomputable def sg48 : Sig := ⟨[.val (.agg (.pair (.int .u64) (.pair (.int .u64) .unit)))], [.val (.int .i64)], []⟩
noncomputable def sm48 : CSem := mkSem sg48 fun x => word_Len x.1
noncomputable def cf48 : Cfg := cf [(56, sem56)] 13 0 []

noncomputable def sem48 : CSem := sm48

noncomputable def sg34 : Sig := ⟨[.val (.agg (.pair (.int .i64) (.pair (.int .u64) (.pair (.int .u64) .unit))))], [.val .bool], []⟩
noncomputable def sm34 : CSem := mkSem sg34 fun x => vec_May x.1
noncomputable def cf34 : Cfg := cf [(47, sem47), (40, sem40), (48, sem48)] 14 0 []

noncomputable def sem34 : CSem := sm34

noncomputable def sg49 : Sig := ⟨[.val (.int .i64)], [.val .bool], []⟩
noncomputable def sm49 : CSem := mkSem sg49 fun x => word_based x.1
noncomputable def cf49 : Cfg := cf [] 9 0 []

noncomputable def sem49 : CSem := sm49

noncomputable def sg63 : Sig := ⟨[.val (.int .u64)], [.val (.int .i64)], []⟩
noncomputable def sm63 : CSem := mkSem sg63 fun x => bits_LeadingZeros64 x.1
noncomputable def cf63 : Cfg := cf [(56, sem56)] 6 0 []

noncomputable def sem63 : CSem := sm63

noncomputable def sg57 : Sig := ⟨[.val (.int .u64), .val (.int .u64), .val (.int .u64)], [.val (.int .u64), .val (.int .u64)], []⟩
noncomputable def sm57 : CSem := mkSem sg57 fun x => bits_Div64 x.1 x.2.1 x.2.2.1
noncomputable def cf57 : Cfg := cf [(63, sem63)] 135 0 [(2, ⟨[(2, .dat (.int .u64)), (8, .dat (.int .u64)), (9, .dat (.int .u64)), (10, .dat (.int .u64)), (14, .dat (.int .u64)), (15, .dat (.int .u64)), (16, .dat (.int .u64)), (17, .dat (.int .u64)), (18, .dat (.int .u64))], []⟩), (0, ⟨[(2, .dat (.int .u64)), (8, .dat (.int .u64)), (9, .dat (.int .u64)), (10, .dat (.int .u64)), (11, .dat (.int .u64)), (13, .dat (.int .u64)), (14, .dat (.int .u64)), (15, .dat (.int .u64)), (16, .dat (.int .u64))], []⟩)]

noncomputable def sem57 : CSem := sm57

noncomputable def ag50 : List AK := [.val (.agg (.pair (.int .u64) (.pair (.int .u64) .unit))), .val (.int .u64)]
noncomputable def al50 : List Alt := [([.val (.agg (.pair (.int .u64) (.pair (.int .u64) .unit))), .val (.int .u64), .val .bool], [])]
noncomputable def sm50 : CSem := mkSemA ag50 al50 fun x => word_Div x.1 x.2.1
noncomputable def cf50 : Cfg := cf [(57, sem57)] 33 0 []

noncomputable def sem50 : CSem := sm50

noncomputable def sg39 : Sig := ⟨[.val (.agg (.pair (.int .u64) (.pair (.int .u64) .unit))), .val (.int .i64)], [.val .str], []⟩
noncomputable def sm39 : CSem := mkSem sg39 fun x => word_Text x.1 x.2.1
noncomputable def cf39 : Cfg := cf [(49, sem49), (50, sem50)] 66 0 [(2, ⟨[(5, .own (.int .u8) false), (37, .dat (.int .i64)), (38, .dat (.int .i64))], []⟩), (0, ⟨[(1, .dat (.int .i64)), (2, .loc (nameOf 2 0) []), (5, .own (.int .u8) false)], [((nameOf 2 0), (.agg (.pair (.int .u64) (.pair (.int .u64) .unit))))]⟩)]

noncomputable def sem39 : CSem := sm39

noncomputable def sg27 : Sig := ⟨[.val (.agg (.pair (.int .i64) (.pair (.int .u64) (.pair (.int .u64) .unit))))], [.val .str], []⟩
noncomputable def sm27 : CSem := mkSem sg27 fun x => vec_Text x.1
noncomputable def cf27 : Cfg := cf [(34, sem34), (39, sem39), (40, sem40)] 16 0 []

noncomputable def sem27 : CSem := sm27

noncomputable def sg28 : Sig := ⟨[.val (.int .i64)], [.val .str], []⟩
noncomputable def sm28 : CSem := mkSem sg28 fun x => code_digits x.1
noncomputable def cf28 : Cfg := cfs [(39, sem39)] 15 0 []

noncomputable def sem28 : CSem := sm28

noncomputable def sm29 : CSem := joinSem

noncomputable def sem29 : CSem := sm29

noncomputable def sg12 : Sig := ⟨[.val (.agg (.pair (.int .i64) (.pair (.int .i64) (.pair (.int .i64) (.pair (.agg (.pair (.int .i64) (.pair (.int .u64) (.pair (.int .u64) .unit)))) .unit)))))], [.val .str], []⟩
noncomputable def sm12 : CSem := mkSem sg12 fun x => code_Text x.1
noncomputable def cf12 : Cfg := cfs [(25, sem25), (10, sem10), (26, sem26), (27, sem27), (28, sem28), (29, sem29)] 43 0 []

noncomputable def sem12 : CSem := sm12

noncomputable def ag45 : List AK := [.val (.int .u64), .val (.int .u64)]
noncomputable def al45 : List Alt := [([.val (.agg (.arr 128 .bool))], [])]
noncomputable def sm45 : CSem := mkSemA ag45 al45 fun x => ref01_Of x.1 x.2.1
noncomputable def cf45 : Cfg := cf [] 27 0 [(0, ⟨[(0, .dat (.int .u64)), (1, .dat (.int .u64)), (4, .loc (nameOf 4 0) []), (5, .loc (nameOf 5 0) []), (6, .dat (.int .i64))], [((nameOf 4 0), (.agg (.arr 128 .bool))), ((nameOf 5 0), (.agg (.arr 128 .bool)))]⟩)]

noncomputable def sem45 : CSem := sm45

noncomputable def sg46 : Sig := ⟨[.val (.agg (.arr 128 .bool))], [.val (.int .i64)], []⟩
noncomputable def sm46 : CSem := mkSem sg46 fun x => ref01_Len x.1
noncomputable def cf46 : Cfg := cf [] 13 0 [(0, ⟨[(1, .loc (nameOf 1 0) []), (3, .dat (.int .i64))], [((nameOf 1 0), (.agg (.arr 128 .bool)))]⟩)]

noncomputable def sem46 : CSem := sm46

noncomputable def sg32 : Sig := ⟨[.val (.agg (.pair (.int .i64) (.pair (.int .u64) (.pair (.int .u64) .unit))))], [.val .bool], []⟩
noncomputable def sm32 : CSem := mkSem sg32 fun x => ref02_May x.1
noncomputable def cf32 : Cfg := cf [(45, sem45), (46, sem46)] 22 0 []

noncomputable def sem32 : CSem := sm32

noncomputable def ag54 : List AK := [.val (.int .i64)]
noncomputable def al54 : List Alt := [([.val (.agg (.arr 128 .bool))], [])]
noncomputable def sm54 : CSem := mkSemA ag54 al54 fun x => ref01_small x.1
noncomputable def cf54 : Cfg := cf [(45, sem45)] 6 0 []

noncomputable def sem54 : CSem := sm54

noncomputable def ag60 : List AK := [.val (.agg (.arr 128 .bool)), .val (.int .i64)]
noncomputable def al60 : List Alt := [([.val (.agg (.arr 128 .bool))], [])]
noncomputable def sm60 : CSem := mkSemA ag60 al60 fun x => ref01_Moved x.1 x.2.1
noncomputable def cf60 : Cfg := cf [] 37 0 [(0, ⟨[(1, .dat (.int .i64)), (2, .loc (nameOf 2 0) []), (4, .loc (nameOf 4 0) []), (5, .loc (nameOf 5 0) []), (6, .dat (.int .i64))], [((nameOf 2 0), (.agg (.arr 128 .bool))), ((nameOf 4 0), (.agg (.arr 128 .bool))), ((nameOf 5 0), (.agg (.arr 128 .bool)))]⟩)]

noncomputable def sem60 : CSem := sm60

noncomputable def sg61 : Sig := ⟨[.val (.agg (.arr 128 .bool)), .val (.agg (.arr 128 .bool))], [.val .bool], []⟩
noncomputable def sm61 : CSem := mkSem sg61 fun x => ref01_Less x.1 x.2.1
noncomputable def cf61 : Cfg := cf [] 20 0 [(0, ⟨[(2, .loc (nameOf 2 0) []), (3, .loc (nameOf 3 0) []), (5, .dat (.int .i64))], [((nameOf 2 0), (.agg (.arr 128 .bool))), ((nameOf 3 0), (.agg (.arr 128 .bool)))]⟩)]

noncomputable def sem61 : CSem := sm61

noncomputable def ag65 : List AK := [.val (.agg (.arr 128 .bool))]
noncomputable def al65 : List Alt := [([.val (.agg (.arr 128 .bool))], [])]
noncomputable def sm65 : CSem := mkSemA ag65 al65 fun x => ref01_Turned x.1
noncomputable def cf65 : Cfg := cf [] 16 0 [(0, ⟨[(1, .loc (nameOf 1 0) []), (2, .loc (nameOf 2 0) []), (3, .loc (nameOf 3 0) []), (4, .dat (.int .i64))], [((nameOf 1 0), (.agg (.arr 128 .bool))), ((nameOf 2 0), (.agg (.arr 128 .bool))), ((nameOf 3 0), (.agg (.arr 128 .bool)))]⟩)]

noncomputable def sem65 : CSem := sm65

noncomputable def ag64 : List AK := [.val (.agg (.arr 128 .bool)), .val (.agg (.arr 128 .bool)), .val .bool]
noncomputable def al64 : List Alt := [([.val (.agg (.arr 128 .bool)), .val .bool], [])]
noncomputable def sm64 : CSem := mkSemA ag64 al64 fun x => ref01_Sum x.1 x.2.1 x.2.2.1
noncomputable def cf64 : Cfg := cf [] 37 0 [(0, ⟨[(2, .dat .bool), (3, .loc (nameOf 3 0) []), (4, .loc (nameOf 4 0) []), (6, .loc (nameOf 6 0) []), (8, .loc (nameOf 8 0) []), (9, .dat (.int .i64))], [((nameOf 3 0), (.agg (.arr 128 .bool))), ((nameOf 4 0), (.agg (.arr 128 .bool))), ((nameOf 6 0), (.agg (.arr 128 .bool))), ((nameOf 8 0), (.agg (.arr 128 .bool)))]⟩)]

noncomputable def sem64 : CSem := sm64

noncomputable def ag62 : List AK := [.val (.agg (.arr 128 .bool)), .val (.agg (.arr 128 .bool))]
noncomputable def al62 : List Alt := [([.val (.agg (.arr 128 .bool)), .val .bool], [])]
noncomputable def sm62 : CSem := mkSemA ag62 al62 fun x => ref01_Minus x.1 x.2.1
noncomputable def cf62 : Cfg := cf [(65, sem65), (64, sem64), (61, sem61)] 19 0 []

noncomputable def sem62 : CSem := sm62

noncomputable def ag53 : List AK := [.val (.agg (.arr 128 .bool)), .val (.agg (.arr 128 .bool))]
noncomputable def al53 : List Alt := [([.val (.agg (.arr 128 .bool)), .val (.agg (.arr 128 .bool))], [])]
noncomputable def sm53 : CSem := mkSemA ag53 al53 fun x => ref01_Part x.1 x.2.1
noncomputable def cf53 : Cfg := cf [(60, sem60), (61, sem61), (62, sem62)] 39 0 [(0, ⟨[(2, .loc (nameOf 2 0) []), (3, .loc (nameOf 3 0) []), (4, .loc (nameOf 4 0) []), (5, .loc (nameOf 5 0) []), (6, .loc (nameOf 6 0) []), (7, .loc (nameOf 7 0) []), (8, .dat (.int .i64))], [((nameOf 2 0), (.agg (.arr 128 .bool))), ((nameOf 3 0), (.agg (.arr 128 .bool))), ((nameOf 4 0), (.agg (.arr 128 .bool))), ((nameOf 5 0), (.agg (.arr 128 .bool))), ((nameOf 6 0), (.agg (.arr 128 .bool))), ((nameOf 7 0), (.agg (.arr 128 .bool)))]⟩)]

noncomputable def sem53 : CSem := sm53

noncomputable def sg55 : Sig := ⟨[.val (.agg (.arr 128 .bool))], [.val (.int .u64), .val (.int .u64)], []⟩
noncomputable def sm55 : CSem := mkSem sg55 fun x => ref01_Halves x.1
noncomputable def cf55 : Cfg := cf [] 28 0 [(0, ⟨[(1, .loc (nameOf 1 0) []), (4, .dat (.int .u64)), (5, .dat (.int .u64)), (6, .dat (.int .i64))], [((nameOf 1 0), (.agg (.arr 128 .bool)))]⟩)]

noncomputable def sem55 : CSem := sm55

noncomputable def sg44 : Sig := ⟨[.val (.agg (.arr 128 .bool)), .val (.int .i64)], [.val .str], []⟩
noncomputable def sm44 : CSem := mkSem sg44 fun x => ref01_Text x.1 x.2.1
noncomputable def cf44 : Cfg := cf [(46, sem46), (54, sem54), (53, sem53), (55, sem55)] 37 0 [(0, ⟨[(1, .dat (.int .i64)), (2, .loc (nameOf 2 0) []), (5, .dat .str)], [((nameOf 2 0), (.agg (.arr 128 .bool)))]⟩)]

noncomputable def sem44 : CSem := sm44

noncomputable def sg30 : Sig := ⟨[.val (.agg (.pair (.int .i64) (.pair (.int .u64) (.pair (.int .u64) .unit))))], [.val .str], []⟩
noncomputable def sm30 : CSem := mkSem sg30 fun x => ref02_Text x.1
noncomputable def cf30 : Cfg := cf [(32, sem32), (45, sem45), (44, sem44)] 19 0 []

noncomputable def sem30 : CSem := sm30

noncomputable def sg31 : Sig := ⟨[.val (.int .i64)], [.val .str], []⟩
noncomputable def sm31 : CSem := mkSem sg31 fun x => ref09_Digits x.1
noncomputable def cf31 : Cfg := cfs [(45, sem45), (44, sem44)] 15 0 []

noncomputable def sem31 : CSem := sm31

noncomputable def sg13 : Sig := ⟨[.val (.agg (.pair (.int .i64) (.pair (.int .i64) (.pair (.int .i64) (.pair (.agg (.pair (.int .i64) (.pair (.int .u64) (.pair (.int .u64) .unit)))) .unit)))))], [.val .str], []⟩
noncomputable def sm13 : CSem := mkSem sg13 fun x => ref09_Text x.1
noncomputable def cf13 : Cfg := cfs [(8, sem8), (30, sem30), (31, sem31)] 47 0 []

noncomputable def sem13 : CSem := sm13

/-! ### shunter/shunterlaw09.lives -/
noncomputable def law09_lives : Option ((Bool × Unit) × (Unit)) :=
  (code_Effect 10).bind fun r_1 =>
  (code_Text (10, 7, 0, (0, 0, 0, ()), ())).bind fun r_2 =>
  let t9_3 : Bool := decide (r_2.1.1 = [115, 108, 105, 99, 101, 32, 55, 32, 48])
  guardR t9_3 (some ()) () fun _ =>
  guardR t9_3 (some (decide (r_1.1.1 = 1))) false fun v_4 =>
  let t13_5 : Bool := bif t9_3 then v_4 else false
  guardR t13_5 (some ()) () fun _ =>
  guardR t13_5 (some (decide (r_1.1.2.1 = 1))) false fun v_6 =>
  some (((bif t13_5 then v_6 else false), ()), ())

noncomputable def sg14 : Sig := ⟨[], [.val .bool], []⟩
noncomputable def sm14 : CSem := mkSem sg14 fun x => law09_lives
noncomputable def cf14 : Cfg := cfs [(11, sem11), (12, sem12)] 18 0 []

noncomputable def sem14 : CSem := sm14

/-! ### shunter/shunterlaw09.CodeTexts -/
noncomputable def law09_CodeTexts_s0 (s_1_0 : List Int) (t_5_0 : List ((List Int) × Int × Int × Int × (List Int) × (List Int) × (List Int) × Unit)) (at_6_0 : Int) (i_7_0 : Int) (p2_0_0 : Int × Int × Int × (Int × Int × Int × Unit) × Unit) : Option ((((List Int) × (List ((List Int) × Int × Int × Int × (List Int) × (List Int) × (List Int) × Unit)) × Int × Int × Unit) × ((Int × Int × Int × (Int × Int × Int × Unit) × Unit) × Unit)) ⊕ ((Bool × Unit) × (Unit))) :=
  bif (decide (i_7_0 < (t_5_0.length : Int))) then
    (Option.map (fun _ => i_7_0) (ckI i_7_0 t_5_0.length)).bind fun v_4 =>
    ((rdI t_5_0 v_4).map (·.1)).bind fun v_5 =>
    (code_Find v_5).bind fun r_6 =>
    (code_Name i_7_0).bind fun r_7 =>
    (Option.map (fun _ => i_7_0) (ckI i_7_0 t_5_0.length)).bind fun v_8 =>
    ((rdI t_5_0 v_8).map (·.1)).bind fun v_9 =>
    let t37_10 : Bool := !decide (r_7.1.1 = v_9)
    guardR (!t37_10) (some ()) () fun _ =>
    guardR (!t37_10) (some ()) () fun _ =>
    let t41_11 : Bool := bif t37_10 then true else !r_6.1.2.1
    guardR (!t41_11) (some ()) () fun _ =>
    guardR (!t41_11) (some ()) () fun _ =>
    guardR (!t41_11) (some (!decide (r_6.1.1 = i_7_0))) false fun v_12 =>
    bif (bif t41_11 then true else v_12) then
      some (.inr ((false, ()), ()))
    else
    (Option.map (fun _ => i_7_0) (ckI i_7_0 t_5_0.length)).bind fun v_14 =>
    ((rdI t_5_0 v_14).map (·.1)).bind fun v_15 =>
    bif (decide (v_15 = s_1_0)) then
      some (.inl ((s_1_0, t_5_0, i_7_0, (IntKind.i64.wrap (i_7_0 + 1)), ()), (p2_0_0.1, p2_0_0.2.1, p2_0_0.2.2.1, (p2_0_0.2.2.2.1.1, p2_0_0.2.2.2.1.2.1, p2_0_0.2.2.2.1.2.2.1, ()), ()), ()))
    else
    some (.inl ((s_1_0, t_5_0, at_6_0, (IntKind.i64.wrap (i_7_0 + 1)), ()), (p2_0_0.1, p2_0_0.2.1, p2_0_0.2.2.1, (p2_0_0.2.2.2.1.1, p2_0_0.2.2.2.1.2.1, p2_0_0.2.2.2.1.2.2.1, ()), ()), ()))
  else
  ((code_Find s_1_0).bind fun r_19 =>
  (code_Effect (t_5_0.length : Int)).bind fun r_21 =>
  let t69_23 : Bool := decide (r_19.1.2.1 = (decide (at_6_0 ≥ 0)))
  guardR t69_23 (some ()) () fun _ =>
  guardR t69_23 (some ()) () fun _ =>
  guardR t69_23 (some (maxI at_6_0 0)) 0 fun v_24 =>
  guardR t69_23 (some (decide (r_19.1.1 = v_24))) false fun v_25 =>
  let t75_26 : Bool := bif t69_23 then v_25 else false
  guardR t75_26 (code_Name (-1)) (([], ()), ()) fun r_27 =>
  guardR t75_26 (some (decide (r_27.1.1 = []))) false fun v_28 =>
  let t79_29 : Bool := bif t75_26 then v_28 else false
  guardR t79_29 (some ()) () fun _ =>
  guardR t79_29 (some (t_5_0.length : Int)) 0 fun v_30 =>
  guardR t79_29 (code_Name v_30) (([], ()), ()) fun r_31 =>
  guardR t79_29 (some (decide (r_31.1.1 = []))) false fun v_32 =>
  let t85_33 : Bool := bif t79_29 then v_32 else false
  guardR t85_33 (some ()) () fun _ =>
  guardR t85_33 (some ()) () fun _ =>
  guardR t85_33 (some (IntKind.i64.wrap (r_21.1.1 + r_21.1.2.1))) 0 fun v_34 =>
  guardR t85_33 (some (decide (v_34 = 0))) false fun v_35 =>
  let t91_36 : Bool := bif t85_33 then v_35 else false
  guardR t91_36 (some (p2_0_0.1, p2_0_0.2.1, p2_0_0.2.2.1, (p2_0_0.2.2.2.1.1, p2_0_0.2.2.2.1.2.1, p2_0_0.2.2.2.1.2.2.1, ()), ())) (0, 0, 0, (0, 0, 0, ()), ()) fun v_37 =>
  guardR t91_36 (code_Text v_37) (([], ()), ()) fun r_38 =>
  guardR t91_36 (some (p2_0_0.1, p2_0_0.2.1, p2_0_0.2.2.1, (p2_0_0.2.2.2.1.1, p2_0_0.2.2.2.1.2.1, p2_0_0.2.2.2.1.2.2.1, ()), ())) (0, 0, 0, (0, 0, 0, ()), ()) fun v_39 =>
  guardR t91_36 (ref09_Text v_39) (([], ()), ()) fun r_40 =>
  guardR t91_36 (some (decide (r_38.1.1 = r_40.1.1))) false fun v_41 =>
  let t98_42 : Bool := bif t91_36 then v_41 else false
  guardR t98_42 law09_lives ((false, ()), ()) fun r_43 =>
  some (((bif t98_42 then r_43.1.1 else false), ()), ())).map .inr
noncomputable def law09_CodeTexts (x_0 : Int × Int × Int × (Int × Int × Int × Unit) × Unit) (s_1 : List Int) : Option ((Bool × Unit) × (Unit)) :=
  ref09_Table.bind fun r_1 =>
  loopR (fun (z : ((List Int) × (List ((List Int) × Int × Int × Int × (List Int) × (List Int) × (List Int) × Unit)) × Int × Int × Unit) × ((Int × Int × Int × (Int × Int × Int × Unit) × Unit) × Unit)) => law09_CodeTexts_s0 z.1.1 z.1.2.1 z.1.2.2.1 z.1.2.2.2.1 z.2.1) ((s_1, r_1.1.1, (-1), 0, ()), (x_0.1, x_0.2.1, x_0.2.2.1, (x_0.2.2.2.1.1, x_0.2.2.2.1.2.1, x_0.2.2.2.1.2.2.1, ()), ()), ())

noncomputable def sg3 : Sig := ⟨[.val (.agg (.pair (.int .i64) (.pair (.int .i64) (.pair (.int .i64) (.pair (.agg (.pair (.int .i64) (.pair (.int .u64) (.pair (.int .u64) .unit)))) .unit))))), .val .str], [.val .bool], []⟩
noncomputable def sm3 : CSem := mkSem sg3 fun x => law09_CodeTexts x.1 x.2.1
noncomputable def cf3 : Cfg := cfs [(8, sem8), (9, sem9), (10, sem10), (11, sem11), (12, sem12), (13, sem13), (14, sem14)] 102 0 [(0, ⟨[(1, .dat .str), (2, .loc (nameOf 2 0) []), (5, .own (.agg (.pair .str (.pair (.int .i64) (.pair (.int .i64) (.pair (.int .i64) (.pair (.agg (.arr 2 (.int .i64))) (.pair (.agg (.arr 2 (.int .i64))) (.pair .str .unit)))))))) false), (6, .dat (.int .i64)), (7, .dat (.int .i64))], [((nameOf 2 0), (.agg (.pair (.int .i64) (.pair (.int .i64) (.pair (.int .i64) (.pair (.agg (.pair (.int .i64) (.pair (.int .u64) (.pair (.int .u64) .unit)))) .unit))))))]⟩)]

noncomputable def sem3 : CSem := sm3

noncomputable def sg33 : Sig := ⟨[.val (.int .i64), .val (.int .i64), .val (.int .i64)], [.val .bool], []⟩
noncomputable def sm33 : CSem := mkSem sg33 fun x => code_within x.1 x.2.1 x.2.2.1
noncomputable def cf33 : Cfg := cfs [] 15 0 []

noncomputable def sem33 : CSem := sm33

noncomputable def sg17 : Sig := ⟨[.val (.agg (.pair (.int .i64) (.pair (.int .i64) (.pair (.int .i64) (.pair (.agg (.pair (.int .i64) (.pair (.int .u64) (.pair (.int .u64) .unit)))) .unit)))))], [.val (.int .i64)], []⟩
noncomputable def sm17 : CSem := mkSem sg17 fun x => code_May x.1
noncomputable def cf17 : Cfg := cfs [(25, sem25), (26, sem26), (33, sem33), (34, sem34)] 63 0 []

noncomputable def sem17 : CSem := sm17

noncomputable def sg16 : Sig := ⟨[.val (.agg (.pair (.int .i64) (.pair (.int .i64) (.pair (.int .i64) (.pair (.agg (.pair (.int .i64) (.pair (.int .u64) (.pair (.int .u64) .unit)))) .unit)))))], [.val (.alt 57 (.agg (.pair (.agg (.pair (.int .i64) (.pair (.int .u64) (.pair (.int .u64) .unit)))) .unit)) (.alt 65 (.agg (.pair (.int .i64) (.pair (.int .i64) (.pair (.int .i64) .unit)))) (.alt 67 (.agg (.pair (.int .i64) (.pair (.int .i64) .unit))) (.alt 68 (.agg (.pair (.int .i64) (.pair (.int .i64) .unit))) (.alt 70 (.agg (.pair (.int .i64) (.pair (.int .i64) .unit))) (.alt 72 (.agg (.pair (.int .i64) (.pair (.int .i64) (.pair (.int .i64) .unit)))) (.alt 74 (.agg (.pair (.int .i64) (.pair (.int .i64) .unit))) (.alt 76 (.agg (.pair (.int .i64) .unit)) (.alt 89 (.agg (.pair (.int .i64) (.pair (.int .i64) .unit))) (.alt 91 (.agg (.pair (.int .i64) (.pair (.int .i64) .unit))) (.alt 93 (.agg .unit) .nili))))))))))), .val (.int .i64)], []⟩
noncomputable def sm16 : CSem := mkSem sg16 fun x => code_Make x.1
noncomputable def cf16 : Cfg := cfs [(17, sem17)] 109 0 []

noncomputable def sem16 : CSem := sm16

noncomputable def sg19 : Sig := ⟨[.val (.slice (.agg (.pair (.int .i64) (.pair (.int .i64) (.pair (.int .i64) (.pair (.agg (.pair (.int .i64) (.pair (.int .u64) (.pair (.int .u64) .unit)))) .unit))))))], [.own (.own (.alt 57 (.agg (.pair (.agg (.pair (.int .i64) (.pair (.int .u64) (.pair (.int .u64) .unit)))) .unit)) (.alt 65 (.agg (.pair (.int .i64) (.pair (.int .i64) (.pair (.int .i64) .unit)))) (.alt 67 (.agg (.pair (.int .i64) (.pair (.int .i64) .unit))) (.alt 68 (.agg (.pair (.int .i64) (.pair (.int .i64) .unit))) (.alt 70 (.agg (.pair (.int .i64) (.pair (.int .i64) .unit))) (.alt 72 (.agg (.pair (.int .i64) (.pair (.int .i64) (.pair (.int .i64) .unit)))) (.alt 74 (.agg (.pair (.int .i64) (.pair (.int .i64) .unit))) (.alt 76 (.agg (.pair (.int .i64) .unit)) (.alt 89 (.agg (.pair (.int .i64) (.pair (.int .i64) .unit))) (.alt 91 (.agg (.pair (.int .i64) (.pair (.int .i64) .unit))) (.alt 93 (.agg .unit) .nili)))))))))))), .val (.int .i64), .val (.int .i64)], []⟩
noncomputable def sm19 : CSem := mkSem sg19 fun x => code_All x.1
noncomputable def cf19 : Cfg := cfs [(16, sem16)] 41 0 [(0, ⟨[(0, .dat (.slice (.agg (.pair (.int .i64) (.pair (.int .i64) (.pair (.int .i64) (.pair (.agg (.pair (.int .i64) (.pair (.int .u64) (.pair (.int .u64) .unit)))) .unit))))))), (5, .own (.alt 57 (.agg (.pair (.agg (.pair (.int .i64) (.pair (.int .u64) (.pair (.int .u64) .unit)))) .unit)) (.alt 65 (.agg (.pair (.int .i64) (.pair (.int .i64) (.pair (.int .i64) .unit)))) (.alt 67 (.agg (.pair (.int .i64) (.pair (.int .i64) .unit))) (.alt 68 (.agg (.pair (.int .i64) (.pair (.int .i64) .unit))) (.alt 70 (.agg (.pair (.int .i64) (.pair (.int .i64) .unit))) (.alt 72 (.agg (.pair (.int .i64) (.pair (.int .i64) (.pair (.int .i64) .unit)))) (.alt 74 (.agg (.pair (.int .i64) (.pair (.int .i64) .unit))) (.alt 76 (.agg (.pair (.int .i64) .unit)) (.alt 89 (.agg (.pair (.int .i64) (.pair (.int .i64) .unit))) (.alt 91 (.agg (.pair (.int .i64) (.pair (.int .i64) .unit))) (.alt 93 (.agg .unit) .nili))))))))))) false), (14, .dat (.slice (.agg (.pair (.int .i64) (.pair (.int .i64) (.pair (.int .i64) (.pair (.agg (.pair (.int .i64) (.pair (.int .u64) (.pair (.int .u64) .unit)))) .unit))))))), (15, .dat (.int .i64)), (16, .dat (.int .i64))], []⟩)]

noncomputable def sem19 : CSem := sm19

noncomputable def sg15 : Sig := ⟨[.val (.agg (.pair (.int .i64) (.pair (.int .i64) (.pair (.int .i64) (.pair (.agg (.pair (.int .i64) (.pair (.int .u64) (.pair (.int .u64) .unit)))) .unit)))))], [.val (.int .i64)], []⟩
noncomputable def sm15 : CSem := mkSem sg15 fun x => ref09_May x.1
noncomputable def cf15 : Cfg := cfs [(8, sem8), (32, sem32)] 70 0 []

noncomputable def sem15 : CSem := sm15

noncomputable def sg20 : Sig := ⟨[.val (.alt 57 (.agg (.pair (.agg (.pair (.int .i64) (.pair (.int .u64) (.pair (.int .u64) .unit)))) .unit)) (.alt 65 (.agg (.pair (.int .i64) (.pair (.int .i64) (.pair (.int .i64) .unit)))) (.alt 67 (.agg (.pair (.int .i64) (.pair (.int .i64) .unit))) (.alt 68 (.agg (.pair (.int .i64) (.pair (.int .i64) .unit))) (.alt 70 (.agg (.pair (.int .i64) (.pair (.int .i64) .unit))) (.alt 72 (.agg (.pair (.int .i64) (.pair (.int .i64) (.pair (.int .i64) .unit)))) (.alt 74 (.agg (.pair (.int .i64) (.pair (.int .i64) .unit))) (.alt 76 (.agg (.pair (.int .i64) .unit)) (.alt 89 (.agg (.pair (.int .i64) (.pair (.int .i64) .unit))) (.alt 91 (.agg (.pair (.int .i64) (.pair (.int .i64) .unit))) (.alt 93 (.agg .unit) .nili)))))))))))], [.val (.int .i64), .val .bool], []⟩
noncomputable def sm20 : CSem := mkSem sg20 fun x => code_Target_f6b x.1
noncomputable def cf20 : Cfg := cfs [] 24 0 []

noncomputable def sem20 : CSem := sm20

noncomputable def ag21 : List AK := [.val (.alt 57 (.agg (.pair (.agg (.pair (.int .i64) (.pair (.int .u64) (.pair (.int .u64) .unit)))) .unit)) (.alt 65 (.agg (.pair (.int .i64) (.pair (.int .i64) (.pair (.int .i64) .unit)))) (.alt 67 (.agg (.pair (.int .i64) (.pair (.int .i64) .unit))) (.alt 68 (.agg (.pair (.int .i64) (.pair (.int .i64) .unit))) (.alt 70 (.agg (.pair (.int .i64) (.pair (.int .i64) .unit))) (.alt 72 (.agg (.pair (.int .i64) (.pair (.int .i64) (.pair (.int .i64) .unit)))) (.alt 74 (.agg (.pair (.int .i64) (.pair (.int .i64) .unit))) (.alt 76 (.agg (.pair (.int .i64) .unit)) (.alt 89 (.agg (.pair (.int .i64) (.pair (.int .i64) .unit))) (.alt 91 (.agg (.pair (.int .i64) (.pair (.int .i64) .unit))) (.alt 93 (.agg .unit) .nili)))))))))))]
noncomputable def al21 : List Alt := [([.val (.agg (.pair (.agg (.pair (.int .i64) (.pair (.int .u64) (.pair (.int .u64) .unit)))) .unit))], [])]
noncomputable def sm21 : CSem := mkSemA ag21 al21 fun x => code_Only_f6b x.1
noncomputable def cf21 : Cfg := cfs [] 5 0 []

noncomputable def sem21 : CSem := sm21

/-! ### shunter/shunterlaw09.CodeLists -/
noncomputable def law09_CodeLists_s2 (l_0_2 : List (Int × Int × Int × (Int × Int × Int × Unit) × Unit)) (s_3_2 : List (((Int × Int × Int × Unit) × Unit) ⊕ ((Int × Int × Int × Unit) ⊕ ((Int × Int × Unit) ⊕ ((Int × Int × Unit) ⊕ ((Int × Int × Unit) ⊕ ((Int × Int × Int × Unit) ⊕ ((Int × Int × Unit) ⊕ ((Int × Unit) ⊕ ((Int × Int × Unit) ⊕ ((Int × Int × Unit) ⊕ (Unit ⊕ Unit)))))))))))) (i_10_2 : Int) : Option ((((List (Int × Int × Int × (Int × Int × Int × Unit) × Unit)) × (List (((Int × Int × Int × Unit) × Unit) ⊕ ((Int × Int × Int × Unit) ⊕ ((Int × Int × Unit) ⊕ ((Int × Int × Unit) ⊕ ((Int × Int × Unit) ⊕ ((Int × Int × Int × Unit) ⊕ ((Int × Int × Unit) ⊕ ((Int × Unit) ⊕ ((Int × Int × Unit) ⊕ ((Int × Int × Unit) ⊕ (Unit ⊕ Unit)))))))))))) × Int × Unit) × (Unit)) ⊕ ((Bool × Unit) × (Unit))) :=
  bif (decide (i_10_2 < (l_0_2.length : Int))) then
    (Option.map (fun _ => i_10_2) (ckI i_10_2 s_3_2.length)).bind fun v_31 =>
    (rdI s_3_2 v_31).bind fun v_32 =>
    (code_Target_f6b v_32).bind fun r_33 =>
    (rdI l_0_2 i_10_2).bind fun v_34 =>
    (code_Effect v_34.1).bind fun r_35 =>
    ref09_Table.bind fun r_36 =>
    (rdI l_0_2 i_10_2).bind fun v_37 =>
    (Option.map (fun _ => v_37.1) (ckI v_37.1 r_36.1.1.length)).bind fun v_38 =>
    (rdI r_36.1.1 v_38).bind fun v_39 =>
    let t107_40 : Bool := decide (v_39.2.2.2.2.2.2.1 = [74, 117, 109, 112])
    guardR (!t107_40) (some ()) () fun _ =>
    guardR (!t107_40) (some v_39.2.2.2.2.2.2.1) [] fun v_41 =>
    guardR (!t107_40) (some (decide (v_41 = [71, 111, 110, 101]))) false fun v_42 =>
    let t112_43 : Bool := bif t107_40 then true else v_42
    bif (decide (v_39.2.2.2.2.2.2.1 = [74, 117, 109, 112])) then
      (rdI l_0_2 i_10_2).bind fun v_45 =>
      bif (decide (v_39.2.2.2.2.2.2.1 = [71, 111, 110, 101])) then
        (rdI l_0_2 i_10_2).bind fun v_47 =>
        let t131_48 : Bool := !(decide (r_33.1.2.1 = t112_43))
        guardR (!t131_48) (some ()) () fun _ =>
        guardR (!t131_48) (some ()) () fun _ =>
        guardR (!t131_48) (some (!decide (r_33.1.1 = v_47.2.2.1))) false fun v_49 =>
        let t136_50 : Bool := bif t131_48 then true else v_49
        guardR (!t136_50) (some ()) () fun _ =>
        guardR (!t136_50) (some ()) () fun _ =>
        guardR (!t136_50) (some v_39.2.1) 0 fun v_51 =>
        guardR (!t136_50) (some (!decide (r_35.1.1 = v_51))) false fun v_52 =>
        let t142_53 : Bool := bif t136_50 then true else v_52
        guardR (!t142_53) (some ()) () fun _ =>
        guardR (!t142_53) (some ()) () fun _ =>
        guardR (!t142_53) (some v_39.2.2.1) 0 fun v_54 =>
        guardR (!t142_53) (some (!decide (r_35.1.2.1 = v_54))) false fun v_55 =>
        bif (bif t142_53 then true else v_55) then
          some (.inr ((false, ()), ()))
        else
        (Option.map (fun _ => i_10_2) (ckI i_10_2 s_3_2.length)).bind fun v_57 =>
        (rdI s_3_2 v_57).bind fun v_58 =>
        let t156_59 : Bool := (getAlt0 v_58).isSome
        guardR t156_59 (some ()) () fun _ =>
        guardR t156_59 (some ()) () fun _ =>
        guardR t156_59 (Option.map (fun _ => i_10_2) (ckI i_10_2 s_3_2.length)) 0 fun v_60 =>
        guardR t156_59 (rdI s_3_2 v_60) (.inr (.inr (.inr (.inr (.inr (.inr (.inr (.inr (.inr (.inr (.inr ()))))))))))) fun v_61 =>
        guardR t156_59 (code_Only_f6b v_61) ((((0, 0, 0, ()), ()), ()), ()) fun r_62 =>
        guardR t156_59 (some ((getAlt0 v_58).getD ((0, 0, 0, ()), ()))) ((0, 0, 0, ()), ()) fun v_63 =>
        guardR t156_59 (some ()) () fun _ =>
        let t166_65 : Bool := bif t156_59 then (!(decide (r_62.1.1.1.1 = v_63.1.1) && (decide (r_62.1.1.1.2.1 = v_63.1.2.1) && decide (r_62.1.1.1.2.2.1 = v_63.1.2.2.1)))) else false
        guardR (!t166_65) (some ()) () fun _ =>
        guardR (!t166_65) (some ()) () fun _ =>
        guardR (!t166_65) (some v_39.2.2.2.2.2.2.1) [] fun v_66 =>
        guardR (!t166_65) (some (decide (v_66 = [80, 117, 115, 104]))) false fun v_67 =>
        guardR (!t166_65) (some ()) () fun _ =>
        bif (bif t166_65 then true else (!(decide (t156_59 = v_67)))) then
          some (.inr ((false, ()), ()))
        else
        some (.inl ((l_0_2, s_3_2, (IntKind.i64.wrap (i_10_2 + 1)), ()), ()))
      else
      let t131_71 : Bool := !(decide (r_33.1.2.1 = t112_43))
      guardR (!t131_71) (some ()) () fun _ =>
      guardR (!t131_71) (some ()) () fun _ =>
      guardR (!t131_71) (some (!decide (r_33.1.1 = v_45.2.1))) false fun v_72 =>
      let t136_73 : Bool := bif t131_71 then true else v_72
      guardR (!t136_73) (some ()) () fun _ =>
      guardR (!t136_73) (some ()) () fun _ =>
      guardR (!t136_73) (some v_39.2.1) 0 fun v_74 =>
      guardR (!t136_73) (some (!decide (r_35.1.1 = v_74))) false fun v_75 =>
      let t142_76 : Bool := bif t136_73 then true else v_75
      guardR (!t142_76) (some ()) () fun _ =>
      guardR (!t142_76) (some ()) () fun _ =>
      guardR (!t142_76) (some v_39.2.2.1) 0 fun v_77 =>
      guardR (!t142_76) (some (!decide (r_35.1.2.1 = v_77))) false fun v_78 =>
      bif (bif t142_76 then true else v_78) then
        some (.inr ((false, ()), ()))
      else
      (Option.map (fun _ => i_10_2) (ckI i_10_2 s_3_2.length)).bind fun v_80 =>
      (rdI s_3_2 v_80).bind fun v_81 =>
      let t156_82 : Bool := (getAlt0 v_81).isSome
      guardR t156_82 (some ()) () fun _ =>
      guardR t156_82 (some ()) () fun _ =>
      guardR t156_82 (Option.map (fun _ => i_10_2) (ckI i_10_2 s_3_2.length)) 0 fun v_83 =>
      guardR t156_82 (rdI s_3_2 v_83) (.inr (.inr (.inr (.inr (.inr (.inr (.inr (.inr (.inr (.inr (.inr ()))))))))))) fun v_84 =>
      guardR t156_82 (code_Only_f6b v_84) ((((0, 0, 0, ()), ()), ()), ()) fun r_85 =>
      guardR t156_82 (some ((getAlt0 v_81).getD ((0, 0, 0, ()), ()))) ((0, 0, 0, ()), ()) fun v_86 =>
      guardR t156_82 (some ()) () fun _ =>
      let t166_88 : Bool := bif t156_82 then (!(decide (r_85.1.1.1.1 = v_86.1.1) && (decide (r_85.1.1.1.2.1 = v_86.1.2.1) && decide (r_85.1.1.1.2.2.1 = v_86.1.2.2.1)))) else false
      guardR (!t166_88) (some ()) () fun _ =>
      guardR (!t166_88) (some ()) () fun _ =>
      guardR (!t166_88) (some v_39.2.2.2.2.2.2.1) [] fun v_89 =>
      guardR (!t166_88) (some (decide (v_89 = [80, 117, 115, 104]))) false fun v_90 =>
      guardR (!t166_88) (some ()) () fun _ =>
      bif (bif t166_88 then true else (!(decide (t156_82 = v_90)))) then
        some (.inr ((false, ()), ()))
      else
      some (.inl ((l_0_2, s_3_2, (IntKind.i64.wrap (i_10_2 + 1)), ()), ()))
    else
    bif (decide (v_39.2.2.2.2.2.2.1 = [71, 111, 110, 101])) then
      (rdI l_0_2 i_10_2).bind fun v_95 =>
      let t131_96 : Bool := !(decide (r_33.1.2.1 = t112_43))
      guardR (!t131_96) (some ()) () fun _ =>
      guardR (!t131_96) (some ()) () fun _ =>
      guardR (!t131_96) (some (!decide (r_33.1.1 = v_95.2.2.1))) false fun v_97 =>
      let t136_98 : Bool := bif t131_96 then true else v_97
      guardR (!t136_98) (some ()) () fun _ =>
      guardR (!t136_98) (some ()) () fun _ =>
      guardR (!t136_98) (some v_39.2.1) 0 fun v_99 =>
      guardR (!t136_98) (some (!decide (r_35.1.1 = v_99))) false fun v_100 =>
      let t142_101 : Bool := bif t136_98 then true else v_100
      guardR (!t142_101) (some ()) () fun _ =>
      guardR (!t142_101) (some ()) () fun _ =>
      guardR (!t142_101) (some v_39.2.2.1) 0 fun v_102 =>
      guardR (!t142_101) (some (!decide (r_35.1.2.1 = v_102))) false fun v_103 =>
      bif (bif t142_101 then true else v_103) then
        some (.inr ((false, ()), ()))
      else
      (Option.map (fun _ => i_10_2) (ckI i_10_2 s_3_2.length)).bind fun v_105 =>
      (rdI s_3_2 v_105).bind fun v_106 =>
      let t156_107 : Bool := (getAlt0 v_106).isSome
      guardR t156_107 (some ()) () fun _ =>
      guardR t156_107 (some ()) () fun _ =>
      guardR t156_107 (Option.map (fun _ => i_10_2) (ckI i_10_2 s_3_2.length)) 0 fun v_108 =>
      guardR t156_107 (rdI s_3_2 v_108) (.inr (.inr (.inr (.inr (.inr (.inr (.inr (.inr (.inr (.inr (.inr ()))))))))))) fun v_109 =>
      guardR t156_107 (code_Only_f6b v_109) ((((0, 0, 0, ()), ()), ()), ()) fun r_110 =>
      guardR t156_107 (some ((getAlt0 v_106).getD ((0, 0, 0, ()), ()))) ((0, 0, 0, ()), ()) fun v_111 =>
      guardR t156_107 (some ()) () fun _ =>
      let t166_113 : Bool := bif t156_107 then (!(decide (r_110.1.1.1.1 = v_111.1.1) && (decide (r_110.1.1.1.2.1 = v_111.1.2.1) && decide (r_110.1.1.1.2.2.1 = v_111.1.2.2.1)))) else false
      guardR (!t166_113) (some ()) () fun _ =>
      guardR (!t166_113) (some ()) () fun _ =>
      guardR (!t166_113) (some v_39.2.2.2.2.2.2.1) [] fun v_114 =>
      guardR (!t166_113) (some (decide (v_114 = [80, 117, 115, 104]))) false fun v_115 =>
      guardR (!t166_113) (some ()) () fun _ =>
      bif (bif t166_113 then true else (!(decide (t156_107 = v_115)))) then
        some (.inr ((false, ()), ()))
      else
      some (.inl ((l_0_2, s_3_2, (IntKind.i64.wrap (i_10_2 + 1)), ()), ()))
    else
    let t131_119 : Bool := !(decide (r_33.1.2.1 = t112_43))
    guardR (!t131_119) (some ()) () fun _ =>
    guardR (!t131_119) (some ()) () fun _ =>
    guardR (!t131_119) (some (!decide (r_33.1.1 = 0))) false fun v_120 =>
    let t136_121 : Bool := bif t131_119 then true else v_120
    guardR (!t136_121) (some ()) () fun _ =>
    guardR (!t136_121) (some ()) () fun _ =>
    guardR (!t136_121) (some v_39.2.1) 0 fun v_122 =>
    guardR (!t136_121) (some (!decide (r_35.1.1 = v_122))) false fun v_123 =>
    let t142_124 : Bool := bif t136_121 then true else v_123
    guardR (!t142_124) (some ()) () fun _ =>
    guardR (!t142_124) (some ()) () fun _ =>
    guardR (!t142_124) (some v_39.2.2.1) 0 fun v_125 =>
    guardR (!t142_124) (some (!decide (r_35.1.2.1 = v_125))) false fun v_126 =>
    bif (bif t142_124 then true else v_126) then
      some (.inr ((false, ()), ()))
    else
    (Option.map (fun _ => i_10_2) (ckI i_10_2 s_3_2.length)).bind fun v_128 =>
    (rdI s_3_2 v_128).bind fun v_129 =>
    let t156_130 : Bool := (getAlt0 v_129).isSome
    guardR t156_130 (some ()) () fun _ =>
    guardR t156_130 (some ()) () fun _ =>
    guardR t156_130 (Option.map (fun _ => i_10_2) (ckI i_10_2 s_3_2.length)) 0 fun v_131 =>
    guardR t156_130 (rdI s_3_2 v_131) (.inr (.inr (.inr (.inr (.inr (.inr (.inr (.inr (.inr (.inr (.inr ()))))))))))) fun v_132 =>
    guardR t156_130 (code_Only_f6b v_132) ((((0, 0, 0, ()), ()), ()), ()) fun r_133 =>
    guardR t156_130 (some ((getAlt0 v_129).getD ((0, 0, 0, ()), ()))) ((0, 0, 0, ()), ()) fun v_134 =>
    guardR t156_130 (some ()) () fun _ =>
    let t166_136 : Bool := bif t156_130 then (!(decide (r_133.1.1.1.1 = v_134.1.1) && (decide (r_133.1.1.1.2.1 = v_134.1.2.1) && decide (r_133.1.1.1.2.2.1 = v_134.1.2.2.1)))) else false
    guardR (!t166_136) (some ()) () fun _ =>
    guardR (!t166_136) (some ()) () fun _ =>
    guardR (!t166_136) (some v_39.2.2.2.2.2.2.1) [] fun v_137 =>
    guardR (!t166_136) (some (decide (v_137 = [80, 117, 115, 104]))) false fun v_138 =>
    guardR (!t166_136) (some ()) () fun _ =>
    bif (bif t166_136 then true else (!(decide (t156_130 = v_138)))) then
      some (.inr ((false, ()), ()))
    else
    some (.inl ((l_0_2, s_3_2, (IntKind.i64.wrap (i_10_2 + 1)), ()), ()))
  else
  (law09_lives.bind fun r_142 =>
  some ((r_142.1.1, ()), ())).map .inr
noncomputable def law09_CodeLists_s0 (l_0_0 : List (Int × Int × Int × (Int × Int × Int × Unit) × Unit)) (s_3_0 : List (((Int × Int × Int × Unit) × Unit) ⊕ ((Int × Int × Int × Unit) ⊕ ((Int × Int × Unit) ⊕ ((Int × Int × Unit) ⊕ ((Int × Int × Unit) ⊕ ((Int × Int × Int × Unit) ⊕ ((Int × Int × Unit) ⊕ ((Int × Unit) ⊕ ((Int × Int × Unit) ⊕ ((Int × Int × Unit) ⊕ (Unit ⊕ Unit)))))))))))) (n_4_0 : Int) (e_5_0 : Int) (at_6_0 : Int) (want_7_0 : Int) (i_8_0 : Int) : Option ((((List (Int × Int × Int × (Int × Int × Int × Unit) × Unit)) × (List (((Int × Int × Int × Unit) × Unit) ⊕ ((Int × Int × Int × Unit) ⊕ ((Int × Int × Unit) ⊕ ((Int × Int × Unit) ⊕ ((Int × Int × Unit) ⊕ ((Int × Int × Int × Unit) ⊕ ((Int × Int × Unit) ⊕ ((Int × Unit) ⊕ ((Int × Int × Unit) ⊕ ((Int × Int × Unit) ⊕ (Unit ⊕ Unit)))))))))))) × Int × Int × Int × Int × Int × Unit) × (Unit)) ⊕ ((Bool × Unit) × (Unit))) :=
  bif (decide (i_8_0 ≥ 0)) then
    (rdI l_0_0 i_8_0).bind fun v_13 =>
    (ref09_May v_13).bind fun r_14 =>
    bif (!decide (r_14.1.1 = 0)) then
      some (.inl ((l_0_0, s_3_0, n_4_0, e_5_0, i_8_0, r_14.1.1, (IntKind.i64.wrap (i_8_0 - 1)), ()), ()))
    else
    some (.inl ((l_0_0, s_3_0, n_4_0, e_5_0, at_6_0, want_7_0, (IntKind.i64.wrap (i_8_0 - 1)), ()), ()))
  else
  let t55_18 : Bool := !decide (e_5_0 = want_7_0)
  (guardR (!t55_18) (some ()) () fun _ =>
  guardR (!t55_18) (some ()) () fun _ =>
  guardR (!t55_18) (some (!decide (n_4_0 = at_6_0))) false fun v_19 =>
  bif (bif t55_18 then true else v_19) then
    some ((false, ()), ())
  else
  bif (!decide (e_5_0 = 0)) then
    let t65_23 : Bool := decide ((s_3_0.length : Int) = 0)
    guardR t65_23 law09_lives ((false, ()), ()) fun r_24 =>
    some (((bif t65_23 then r_24.1.1 else false), ()), ())
  else
  bif (!decide ((s_3_0.length : Int) = (l_0_0.length : Int))) then
    some ((false, ()), ())
  else
  loopR (fun (z : ((List (Int × Int × Int × (Int × Int × Int × Unit) × Unit)) × (List (((Int × Int × Int × Unit) × Unit) ⊕ ((Int × Int × Int × Unit) ⊕ ((Int × Int × Unit) ⊕ ((Int × Int × Unit) ⊕ ((Int × Int × Unit) ⊕ ((Int × Int × Int × Unit) ⊕ ((Int × Int × Unit) ⊕ ((Int × Unit) ⊕ ((Int × Int × Unit) ⊕ ((Int × Int × Unit) ⊕ (Unit ⊕ Unit)))))))))))) × Int × Unit) × (Unit)) => law09_CodeLists_s2 z.1.1 z.1.2.1 z.1.2.2.1) ((l_0_0, s_3_0, 0, ()), ())).map .inr
noncomputable def law09_CodeLists (l_0 : List (Int × Int × Int × (Int × Int × Int × Unit) × Unit)) : Option ((Bool × Unit) × (Unit)) :=
  bif (decide ((l_0.length : Int) > 200)) then
    law09_lives.bind fun r_3 =>
    some ((r_3.1.1, ()), ())
  else
  (code_All l_0).bind fun r_4 =>
  let t31_5 : Int := (l_0.length : Int)
  bif (decide ((l_0.length : Int) > 64)) then
    loopR (fun (z : ((List (Int × Int × Int × (Int × Int × Int × Unit) × Unit)) × (List (((Int × Int × Int × Unit) × Unit) ⊕ ((Int × Int × Int × Unit) ⊕ ((Int × Int × Unit) ⊕ ((Int × Int × Unit) ⊕ ((Int × Int × Unit) ⊕ ((Int × Int × Int × Unit) ⊕ ((Int × Int × Unit) ⊕ ((Int × Unit) ⊕ ((Int × Int × Unit) ⊕ ((Int × Int × Unit) ⊕ (Unit ⊕ Unit)))))))))))) × Int × Int × Int × Int × Int × Unit) × (Unit)) => law09_CodeLists_s0 z.1.1 z.1.2.1 z.1.2.2.1 z.1.2.2.2.1 z.1.2.2.2.2.1 z.1.2.2.2.2.2.1 z.1.2.2.2.2.2.2.1) ((l_0, r_4.1.1, r_4.1.2.1, r_4.1.2.2.1, (minI t31_5 64), 2, (IntKind.i64.wrap ((minI (l_0.length : Int) 64) - 1)), ()), ())
  else
  loopR (fun (z : ((List (Int × Int × Int × (Int × Int × Int × Unit) × Unit)) × (List (((Int × Int × Int × Unit) × Unit) ⊕ ((Int × Int × Int × Unit) ⊕ ((Int × Int × Unit) ⊕ ((Int × Int × Unit) ⊕ ((Int × Int × Unit) ⊕ ((Int × Int × Int × Unit) ⊕ ((Int × Int × Unit) ⊕ ((Int × Unit) ⊕ ((Int × Int × Unit) ⊕ ((Int × Int × Unit) ⊕ (Unit ⊕ Unit)))))))))))) × Int × Int × Int × Int × Int × Unit) × (Unit)) => law09_CodeLists_s0 z.1.1 z.1.2.1 z.1.2.2.1 z.1.2.2.2.1 z.1.2.2.2.2.1 z.1.2.2.2.2.2.1 z.1.2.2.2.2.2.2.1) ((l_0, r_4.1.1, r_4.1.2.1, r_4.1.2.2.1, (minI t31_5 64), 0, (IntKind.i64.wrap ((minI (l_0.length : Int) 64) - 1)), ()), ())

noncomputable def sg5 : Sig := ⟨[.val (.slice (.agg (.pair (.int .i64) (.pair (.int .i64) (.pair (.int .i64) (.pair (.agg (.pair (.int .i64) (.pair (.int .u64) (.pair (.int .u64) .unit)))) .unit))))))], [.val .bool], []⟩
noncomputable def sm5 : CSem := mkSem sg5 fun x => law09_CodeLists x.1
noncomputable def cf5 : Cfg := cfs [(14, sem14), (19, sem19), (15, sem15), (20, sem20), (11, sem11), (8, sem8), (21, sem21)] 175 0 [(2, ⟨[(0, .dat (.slice (.agg (.pair (.int .i64) (.pair (.int .i64) (.pair (.int .i64) (.pair (.agg (.pair (.int .i64) (.pair (.int .u64) (.pair (.int .u64) .unit)))) .unit))))))), (3, .own (.alt 57 (.agg (.pair (.agg (.pair (.int .i64) (.pair (.int .u64) (.pair (.int .u64) .unit)))) .unit)) (.alt 65 (.agg (.pair (.int .i64) (.pair (.int .i64) (.pair (.int .i64) .unit)))) (.alt 67 (.agg (.pair (.int .i64) (.pair (.int .i64) .unit))) (.alt 68 (.agg (.pair (.int .i64) (.pair (.int .i64) .unit))) (.alt 70 (.agg (.pair (.int .i64) (.pair (.int .i64) .unit))) (.alt 72 (.agg (.pair (.int .i64) (.pair (.int .i64) (.pair (.int .i64) .unit)))) (.alt 74 (.agg (.pair (.int .i64) (.pair (.int .i64) .unit))) (.alt 76 (.agg (.pair (.int .i64) .unit)) (.alt 89 (.agg (.pair (.int .i64) (.pair (.int .i64) .unit))) (.alt 91 (.agg (.pair (.int .i64) (.pair (.int .i64) .unit))) (.alt 93 (.agg .unit) .nili))))))))))) false), (10, .dat (.int .i64))], []⟩), (0, ⟨[(0, .dat (.slice (.agg (.pair (.int .i64) (.pair (.int .i64) (.pair (.int .i64) (.pair (.agg (.pair (.int .i64) (.pair (.int .u64) (.pair (.int .u64) .unit)))) .unit))))))), (3, .own (.alt 57 (.agg (.pair (.agg (.pair (.int .i64) (.pair (.int .u64) (.pair (.int .u64) .unit)))) .unit)) (.alt 65 (.agg (.pair (.int .i64) (.pair (.int .i64) (.pair (.int .i64) .unit)))) (.alt 67 (.agg (.pair (.int .i64) (.pair (.int .i64) .unit))) (.alt 68 (.agg (.pair (.int .i64) (.pair (.int .i64) .unit))) (.alt 70 (.agg (.pair (.int .i64) (.pair (.int .i64) .unit))) (.alt 72 (.agg (.pair (.int .i64) (.pair (.int .i64) (.pair (.int .i64) .unit)))) (.alt 74 (.agg (.pair (.int .i64) (.pair (.int .i64) .unit))) (.alt 76 (.agg (.pair (.int .i64) .unit)) (.alt 89 (.agg (.pair (.int .i64) (.pair (.int .i64) .unit))) (.alt 91 (.agg (.pair (.int .i64) (.pair (.int .i64) .unit))) (.alt 93 (.agg .unit) .nili))))))))))) false), (4, .dat (.int .i64)), (5, .dat (.int .i64)), (6, .dat (.int .i64)), (7, .dat (.int .i64)), (8, .dat (.int .i64))], []⟩)]

noncomputable def sem5 : CSem := sm5

noncomputable def ag35 : List AK := [.val (.alt 57 (.agg (.pair (.agg (.pair (.int .i64) (.pair (.int .u64) (.pair (.int .u64) .unit)))) .unit)) (.alt 65 (.agg (.pair (.int .i64) (.pair (.int .i64) (.pair (.int .i64) .unit)))) (.alt 67 (.agg (.pair (.int .i64) (.pair (.int .i64) .unit))) (.alt 68 (.agg (.pair (.int .i64) (.pair (.int .i64) .unit))) (.alt 70 (.agg (.pair (.int .i64) (.pair (.int .i64) .unit))) (.alt 72 (.agg (.pair (.int .i64) (.pair (.int .i64) (.pair (.int .i64) .unit)))) (.alt 74 (.agg (.pair (.int .i64) (.pair (.int .i64) .unit))) (.alt 76 (.agg (.pair (.int .i64) .unit)) (.alt 89 (.agg (.pair (.int .i64) (.pair (.int .i64) .unit))) (.alt 91 (.agg (.pair (.int .i64) (.pair (.int .i64) .unit))) (.alt 93 (.agg .unit) .nili)))))))))))]
noncomputable def al35 : List Alt := [([.val (.agg (.pair (.int .i64) (.pair (.int .i64) (.pair (.int .i64) (.pair (.agg (.pair (.int .i64) (.pair (.int .u64) (.pair (.int .u64) .unit)))) .unit)))))], [])]
noncomputable def sm35 : CSem := mkSemA ag35 al35 fun x => code_plain_f6b x.1
noncomputable def cf35 : Cfg := cfs [] 100 0 []

noncomputable def sem35 : CSem := sm35

noncomputable def sg36 : Sig := ⟨[.val (.alt 57 (.agg (.pair (.agg (.pair (.int .i64) (.pair (.int .u64) (.pair (.int .u64) .unit)))) .unit)) (.alt 65 (.agg (.pair (.int .i64) (.pair (.int .i64) (.pair (.int .i64) .unit)))) (.alt 67 (.agg (.pair (.int .i64) (.pair (.int .i64) .unit))) (.alt 68 (.agg (.pair (.int .i64) (.pair (.int .i64) .unit))) (.alt 70 (.agg (.pair (.int .i64) (.pair (.int .i64) .unit))) (.alt 72 (.agg (.pair (.int .i64) (.pair (.int .i64) (.pair (.int .i64) .unit)))) (.alt 74 (.agg (.pair (.int .i64) (.pair (.int .i64) .unit))) (.alt 76 (.agg (.pair (.int .i64) .unit)) (.alt 89 (.agg (.pair (.int .i64) (.pair (.int .i64) .unit))) (.alt 91 (.agg (.pair (.int .i64) (.pair (.int .i64) .unit))) (.alt 93 (.agg .unit) .nili))))))))))), .val (.alt 57 (.agg (.pair (.agg (.pair (.int .i64) (.pair (.int .u64) (.pair (.int .u64) .unit)))) .unit)) (.alt 65 (.agg (.pair (.int .i64) (.pair (.int .i64) (.pair (.int .i64) .unit)))) (.alt 67 (.agg (.pair (.int .i64) (.pair (.int .i64) .unit))) (.alt 68 (.agg (.pair (.int .i64) (.pair (.int .i64) .unit))) (.alt 70 (.agg (.pair (.int .i64) (.pair (.int .i64) .unit))) (.alt 72 (.agg (.pair (.int .i64) (.pair (.int .i64) (.pair (.int .i64) .unit)))) (.alt 74 (.agg (.pair (.int .i64) (.pair (.int .i64) .unit))) (.alt 76 (.agg (.pair (.int .i64) .unit)) (.alt 89 (.agg (.pair (.int .i64) (.pair (.int .i64) .unit))) (.alt 91 (.agg (.pair (.int .i64) (.pair (.int .i64) .unit))) (.alt 93 (.agg .unit) .nili)))))))))))], [.val .bool], []⟩
noncomputable def sm36 : CSem := mkSem sg36 fun x => code_alike_b2d x.1 x.2.1
noncomputable def cf36 : Cfg := cfs [] 96 0 []

noncomputable def sem36 : CSem := sm36

noncomputable def ag22 : List AK := [.val .nili]
noncomputable def al22 : List Alt := [([.val (.agg (.pair (.int .i64) (.pair (.int .i64) (.pair (.int .i64) (.pair (.agg (.pair (.int .i64) (.pair (.int .u64) (.pair (.int .u64) .unit)))) .unit))))), .val .bool], [])]
noncomputable def sm22 : CSem := mkSemA ag22 al22 fun x => code_Plain_127 x.1
noncomputable def cf22 : Cfg := cfs [] 27 0 []

noncomputable def ag22a : List AK := [.val (.alt 57 (.agg (.pair (.agg (.pair (.int .i64) (.pair (.int .u64) (.pair (.int .u64) .unit)))) .unit)) (.alt 65 (.agg (.pair (.int .i64) (.pair (.int .i64) (.pair (.int .i64) .unit)))) (.alt 67 (.agg (.pair (.int .i64) (.pair (.int .i64) .unit))) (.alt 68 (.agg (.pair (.int .i64) (.pair (.int .i64) .unit))) (.alt 70 (.agg (.pair (.int .i64) (.pair (.int .i64) .unit))) (.alt 72 (.agg (.pair (.int .i64) (.pair (.int .i64) (.pair (.int .i64) .unit)))) (.alt 74 (.agg (.pair (.int .i64) (.pair (.int .i64) .unit))) (.alt 76 (.agg (.pair (.int .i64) .unit)) (.alt 89 (.agg (.pair (.int .i64) (.pair (.int .i64) .unit))) (.alt 91 (.agg (.pair (.int .i64) (.pair (.int .i64) .unit))) (.alt 93 (.agg .unit) .nili)))))))))))]
noncomputable def al22a : List Alt := [([.val (.agg (.pair (.int .i64) (.pair (.int .i64) (.pair (.int .i64) (.pair (.agg (.pair (.int .i64) (.pair (.int .u64) (.pair (.int .u64) .unit)))) .unit))))), .val .bool], [])]
noncomputable def sm22a : CSem := mkSemA ag22a al22a fun x => code_Plain_f6b x.1
noncomputable def cf22a : Cfg := cfs [(35, sem35), (16, sem16), (36, sem36)] 27 0 []

noncomputable def sem22 : CSem := orSem sm22 (sm22a)

/-! ### shunter/shunterlaw09.CodeBack -/
noncomputable def law09_CodeBack (x_0 : Int × Int × Int × (Int × Int × Int × Unit) × Unit) : Option ((Bool × Unit) × (Unit)) :=
  (code_Plain_127 ()).bind fun r_1 =>
  guardR (!r_1.1.2.1) (some r_1.1.1) (0, 0, 0, (0, 0, 0, ()), ()) fun v_2 =>
  guardR (!r_1.1.2.1) (some ()) () fun _ =>
  guardR (!r_1.1.2.1) (some ()) () fun _ =>
  bif (bif r_1.1.2.1 then true else (!(decide (v_2.1 = 0) && (decide (v_2.2.1 = 0) && (decide (v_2.2.2.1 = 0) && (decide (v_2.2.2.2.1.1 = 0) && (decide (v_2.2.2.2.1.2.1 = 0) && decide (v_2.2.2.2.1.2.2.1 = 0)))))))) then
    some ((false, ()), ())
  else
  (code_Make (x_0.1, x_0.2.1, x_0.2.2.1, (x_0.2.2.2.1.1, x_0.2.2.2.1.2.1, x_0.2.2.2.1.2.2.1, ()), ())).bind fun r_5 =>
  bif (!decide (r_5.1.2.1 = 0)) then
    law09_lives.bind fun r_7 =>
    some ((r_7.1.1, ()), ())
  else
  (code_Plain_f6b r_5.1.1).bind fun r_8 =>
  guardR r_8.1.2.1 (some r_8.1.1) (0, 0, 0, (0, 0, 0, ()), ()) fun v_9 =>
  guardR r_8.1.2.1 (some (x_0.1, x_0.2.1, x_0.2.2.1, (x_0.2.2.2.1.1, x_0.2.2.2.1.2.1, x_0.2.2.2.1.2.2.1, ()), ())) (0, 0, 0, (0, 0, 0, ()), ()) fun v_10 =>
  guardR r_8.1.2.1 (some ()) () fun _ =>
  let t35_12 : Bool := bif r_8.1.2.1 then (decide (v_9.1 = v_10.1) && (decide (v_9.2.1 = v_10.2.1) && (decide (v_9.2.2.1 = v_10.2.2.1) && (decide (v_9.2.2.2.1.1 = v_10.2.2.2.1.1) && (decide (v_9.2.2.2.1.2.1 = v_10.2.2.2.1.2.1) && decide (v_9.2.2.2.1.2.2.1 = v_10.2.2.2.1.2.2.1)))))) else false
  guardR t35_12 law09_lives ((false, ()), ()) fun r_13 =>
  some (((bif t35_12 then r_13.1.1 else false), ()), ())

noncomputable def sg6 : Sig := ⟨[.val (.agg (.pair (.int .i64) (.pair (.int .i64) (.pair (.int .i64) (.pair (.agg (.pair (.int .i64) (.pair (.int .u64) (.pair (.int .u64) .unit)))) .unit)))))], [.val .bool], []⟩
noncomputable def sm6 : CSem := mkSem sg6 fun x => law09_CodeBack x.1
noncomputable def cf6 : Cfg := cfs [(22, sem22), (16, sem16), (14, sem14)] 39 0 []

noncomputable def sem6 : CSem := sm6

/-! ### shunter/shunterlaw09.typeOf -/
noncomputable def law09_typeOf_faa (s_0 : ((Int × Int × Int × Unit) × Unit) ⊕ Unit) : Option (((List Int) × Unit) × (Unit)) :=
  bif ((getAlt0 s_0).isSome) then
    some (([80, 117, 115, 104], ()), ())
  else
  some (([], ()), ())

noncomputable def sg18 : Sig := ⟨[.val (.alt 57 (.agg (.pair (.agg (.pair (.int .i64) (.pair (.int .u64) (.pair (.int .u64) .unit)))) .unit)) .nili)], [.val .str], []⟩
noncomputable def sm18 : CSem := mkSem sg18 fun x => law09_typeOf_faa x.1
noncomputable def cf18 : Cfg := cfs [] 37 0 []

/-! ### shunter/shunterlaw09.typeOf -/
noncomputable def law09_typeOf_eb7 (s_0 : (Int × Int × Int × Unit) ⊕ Unit) : Option (((List Int) × Unit) × (Unit)) :=
  bif ((getAlt0 s_0).isSome) then
    some (([80, 108, 97, 99, 101], ()), ())
  else
  some (([], ()), ())

noncomputable def sg18a : Sig := ⟨[.val (.alt 65 (.agg (.pair (.int .i64) (.pair (.int .i64) (.pair (.int .i64) .unit)))) .nili)], [.val .str], []⟩
noncomputable def sm18a : CSem := mkSem sg18a fun x => law09_typeOf_eb7 x.1
noncomputable def cf18a : Cfg := cfs [] 37 0 []

/-! ### shunter/shunterlaw09.typeOf -/
noncomputable def law09_typeOf_7b1 (s_0 : (Int × Int × Unit) ⊕ Unit) : Option (((List Int) × Unit) × (Unit)) :=
  bif ((getAlt0 s_0).isSome) then
    some (([67, 101, 108, 108], ()), ())
  else
  some (([], ()), ())

noncomputable def sg18b : Sig := ⟨[.val (.alt 67 (.agg (.pair (.int .i64) (.pair (.int .i64) .unit))) .nili)], [.val .str], []⟩
noncomputable def sm18b : CSem := mkSem sg18b fun x => law09_typeOf_7b1 x.1
noncomputable def cf18b : Cfg := cfs [] 37 0 []

/-! ### shunter/shunterlaw09.typeOf -/
noncomputable def law09_typeOf_7b1_b (s_0 : (Int × Int × Unit) ⊕ Unit) : Option (((List Int) × Unit) × (Unit)) :=
  bif ((getAlt0 s_0).isSome) then
    some (([79, 110, 101], ()), ())
  else
  some (([], ()), ())

noncomputable def sg18c : Sig := ⟨[.val (.alt 68 (.agg (.pair (.int .i64) (.pair (.int .i64) .unit))) .nili)], [.val .str], []⟩
noncomputable def sm18c : CSem := mkSem sg18c fun x => law09_typeOf_7b1_b x.1
noncomputable def cf18c : Cfg := cfs [] 37 0 []

/-! ### shunter/shunterlaw09.typeOf -/
noncomputable def law09_typeOf_7b1_c (s_0 : (Int × Int × Unit) ⊕ Unit) : Option (((List Int) × Unit) × (Unit)) :=
  bif ((getAlt0 s_0).isSome) then
    some (([80, 97, 114, 116], ()), ())
  else
  some (([], ()), ())

noncomputable def sg18d : Sig := ⟨[.val (.alt 70 (.agg (.pair (.int .i64) (.pair (.int .i64) .unit))) .nili)], [.val .str], []⟩
noncomputable def sm18d : CSem := mkSem sg18d fun x => law09_typeOf_7b1_c x.1
noncomputable def cf18d : Cfg := cfs [] 37 0 []

/-! ### shunter/shunterlaw09.typeOf -/
noncomputable def law09_typeOf_eb7_b (s_0 : (Int × Int × Int × Unit) ⊕ Unit) : Option (((List Int) × Unit) × (Unit)) :=
  bif ((getAlt0 s_0).isSome) then
    some (([72, 101, 97, 100, 115], ()), ())
  else
  some (([], ()), ())

noncomputable def sg18e : Sig := ⟨[.val (.alt 72 (.agg (.pair (.int .i64) (.pair (.int .i64) (.pair (.int .i64) .unit)))) .nili)], [.val .str], []⟩
noncomputable def sm18e : CSem := mkSem sg18e fun x => law09_typeOf_eb7_b x.1
noncomputable def cf18e : Cfg := cfs [] 37 0 []

/-! ### shunter/shunterlaw09.typeOf -/
noncomputable def law09_typeOf_7b1_d (s_0 : (Int × Int × Unit) ⊕ Unit) : Option (((List Int) × Unit) × (Unit)) :=
  bif ((getAlt0 s_0).isSome) then
    some (([71, 111, 110, 101], ()), ())
  else
  some (([], ()), ())

noncomputable def sg18f : Sig := ⟨[.val (.alt 74 (.agg (.pair (.int .i64) (.pair (.int .i64) .unit))) .nili)], [.val .str], []⟩
noncomputable def sm18f : CSem := mkSem sg18f fun x => law09_typeOf_7b1_d x.1
noncomputable def cf18f : Cfg := cfs [] 37 0 []

/-! ### shunter/shunterlaw09.typeOf -/
noncomputable def law09_typeOf_c29 (s_0 : (Int × Unit) ⊕ Unit) : Option (((List Int) × Unit) × (Unit)) :=
  bif ((getAlt0 s_0).isSome) then
    some (([84, 119, 111], ()), ())
  else
  some (([], ()), ())

noncomputable def sg18g : Sig := ⟨[.val (.alt 76 (.agg (.pair (.int .i64) .unit)) .nili)], [.val .str], []⟩
noncomputable def sm18g : CSem := mkSem sg18g fun x => law09_typeOf_c29 x.1
noncomputable def cf18g : Cfg := cfs [] 37 0 []

/-! ### shunter/shunterlaw09.typeOf -/
noncomputable def law09_typeOf_f6b (s_0 : ((Int × Int × Int × Unit) × Unit) ⊕ ((Int × Int × Int × Unit) ⊕ ((Int × Int × Unit) ⊕ ((Int × Int × Unit) ⊕ ((Int × Int × Unit) ⊕ ((Int × Int × Int × Unit) ⊕ ((Int × Int × Unit) ⊕ ((Int × Unit) ⊕ ((Int × Int × Unit) ⊕ ((Int × Int × Unit) ⊕ (Unit ⊕ Unit))))))))))) : Option (((List Int) × Unit) × (Unit)) :=
  bif ((getAlt0 s_0).isSome) then
    some (([80, 117, 115, 104], ()), ())
  else
  bif ((getAlt1 s_0).isSome) then
    some (([80, 108, 97, 99, 101], ()), ())
  else
  bif ((getAlt2 s_0).isSome) then
    some (([67, 101, 108, 108], ()), ())
  else
  bif ((getAlt8 s_0).isSome) then
    some (([83, 108, 111, 116], ()), ())
  else
  bif ((getAlt3 s_0).isSome) then
    some (([79, 110, 101], ()), ())
  else
  bif ((getAlt4 s_0).isSome) then
    some (([80, 97, 114, 116], ()), ())
  else
  bif ((getAlt7 s_0).isSome) then
    some (([84, 119, 111], ()), ())
  else
  bif ((getAlt5 s_0).isSome) then
    some (([72, 101, 97, 100, 115], ()), ())
  else
  bif ((getAlt9 s_0).isSome) then
    some (([74, 117, 109, 112], ()), ())
  else
  bif ((getAlt6 s_0).isSome) then
    some (([71, 111, 110, 101], ()), ())
  else
  bif ((getAlt10 s_0).isSome) then
    some (([83, 116, 111, 112], ()), ())
  else
  some (([], ()), ())

noncomputable def sg18h : Sig := ⟨[.val (.alt 57 (.agg (.pair (.agg (.pair (.int .i64) (.pair (.int .u64) (.pair (.int .u64) .unit)))) .unit)) (.alt 65 (.agg (.pair (.int .i64) (.pair (.int .i64) (.pair (.int .i64) .unit)))) (.alt 67 (.agg (.pair (.int .i64) (.pair (.int .i64) .unit))) (.alt 68 (.agg (.pair (.int .i64) (.pair (.int .i64) .unit))) (.alt 70 (.agg (.pair (.int .i64) (.pair (.int .i64) .unit))) (.alt 72 (.agg (.pair (.int .i64) (.pair (.int .i64) (.pair (.int .i64) .unit)))) (.alt 74 (.agg (.pair (.int .i64) (.pair (.int .i64) .unit))) (.alt 76 (.agg (.pair (.int .i64) .unit)) (.alt 89 (.agg (.pair (.int .i64) (.pair (.int .i64) .unit))) (.alt 91 (.agg (.pair (.int .i64) (.pair (.int .i64) .unit))) (.alt 93 (.agg .unit) .nili)))))))))))], [.val .str], []⟩
noncomputable def sm18h : CSem := mkSem sg18h fun x => law09_typeOf_f6b x.1
noncomputable def cf18h : Cfg := cfs [] 37 0 []

noncomputable def sem18 : CSem := orSem sm18 (orSem sm18a (orSem sm18b (orSem sm18c (orSem sm18d (orSem sm18e (orSem sm18f (orSem sm18g (sm18h))))))))

noncomputable def sg81 : Sig := ⟨[.val (.agg (.pair (.agg (.pair (.int .i64) (.pair (.int .u64) (.pair (.int .u64) .unit)))) .unit))], [.val (.int .i64)], []⟩
noncomputable def sm81 : CSem := mkSem sg81 fun x => code_Push_Op x.1
noncomputable def cf81 : Cfg := cfs [] 3 0 []

noncomputable def sem81 : CSem := sm81

noncomputable def sg82 : Sig := ⟨[.val (.agg (.pair (.int .i64) (.pair (.int .i64) (.pair (.int .i64) .unit))))], [.val (.int .i64)], []⟩
noncomputable def sm82 : CSem := mkSem sg82 fun x => code_Place_Op x.1
noncomputable def cf82 : Cfg := cfs [] 5 0 []

noncomputable def sem82 : CSem := sm82

noncomputable def sg83 : Sig := ⟨[.val (.agg (.pair (.int .i64) (.pair (.int .i64) .unit)))], [.val (.int .i64)], []⟩
noncomputable def sm83 : CSem := mkSem sg83 fun x => code_Cell_Op x.1
noncomputable def cf83 : Cfg := cfs [] 5 0 []

noncomputable def sem83 : CSem := sm83

noncomputable def sg84 : Sig := ⟨[.val (.agg (.pair (.int .i64) (.pair (.int .i64) .unit)))], [.val (.int .i64)], []⟩
noncomputable def sm84 : CSem := mkSem sg84 fun x => code_One_Op x.1
noncomputable def cf84 : Cfg := cfs [] 5 0 []

noncomputable def sem84 : CSem := sm84

noncomputable def sg85 : Sig := ⟨[.val (.agg (.pair (.int .i64) (.pair (.int .i64) .unit)))], [.val (.int .i64)], []⟩
noncomputable def sm85 : CSem := mkSem sg85 fun x => code_Part_Op x.1
noncomputable def cf85 : Cfg := cfs [] 3 0 []

noncomputable def sem85 : CSem := sm85

noncomputable def sg86 : Sig := ⟨[.val (.agg (.pair (.int .i64) (.pair (.int .i64) (.pair (.int .i64) .unit))))], [.val (.int .i64)], []⟩
noncomputable def sm86 : CSem := mkSem sg86 fun x => code_Heads_Op x.1
noncomputable def cf86 : Cfg := cfs [] 5 0 []

noncomputable def sem86 : CSem := sm86

noncomputable def sg87 : Sig := ⟨[.val (.agg (.pair (.int .i64) (.pair (.int .i64) .unit)))], [.val (.int .i64)], []⟩
noncomputable def sm87 : CSem := mkSem sg87 fun x => code_Gone_Op x.1
noncomputable def cf87 : Cfg := cfs [] 3 0 []

noncomputable def sem87 : CSem := sm87

noncomputable def sg88 : Sig := ⟨[.val (.agg (.pair (.int .i64) .unit))], [.val (.int .i64)], []⟩
noncomputable def sm88 : CSem := mkSem sg88 fun x => code_Two_Op x.1
noncomputable def cf88 : Cfg := cfs [] 5 0 []

noncomputable def sem88 : CSem := sm88

noncomputable def sg89 : Sig := ⟨[.val (.agg (.pair (.int .i64) (.pair (.int .i64) .unit)))], [.val (.int .i64)], []⟩
noncomputable def sm89 : CSem := mkSem sg89 fun x => code_Slot_Op x.1
noncomputable def cf89 : Cfg := cfs [] 5 0 []

noncomputable def sem89 : CSem := sm89

noncomputable def sg90 : Sig := ⟨[.val (.agg (.pair (.int .i64) (.pair (.int .i64) .unit)))], [.val (.int .i64)], []⟩
noncomputable def sm90 : CSem := mkSem sg90 fun x => code_Jump_Op x.1
noncomputable def cf90 : Cfg := cfs [] 5 0 []

noncomputable def sem90 : CSem := sm90

noncomputable def sg91 : Sig := ⟨[.val (.agg .unit)], [.val (.int .i64)], []⟩
noncomputable def sm91 : CSem := mkSem sg91 fun x => code_Stop_Op x.1
noncomputable def cf91 : Cfg := cfs [] 3 0 []

noncomputable def sem91 : CSem := sm91

/-! ### shunter/shunterlaw09.CodeMakes -/
noncomputable def law09_CodeMakes (x_0 : Int × Int × Int × (Int × Int × Int × Unit) × Unit) : Option ((Bool × Unit) × (Unit)) :=
  (ref09_May (x_0.1, x_0.2.1, x_0.2.2.1, (x_0.2.2.2.1.1, x_0.2.2.2.1.2.1, x_0.2.2.2.1.2.2.1, ()), ())).bind fun r_1 =>
  (code_Make (x_0.1, x_0.2.1, x_0.2.2.1, (x_0.2.2.2.1.1, x_0.2.2.2.1.2.1, x_0.2.2.2.1.2.2.1, ()), ())).bind fun r_2 =>
  (code_May (x_0.1, x_0.2.1, x_0.2.2.1, (x_0.2.2.2.1.1, x_0.2.2.2.1.2.1, x_0.2.2.2.1.2.2.1, ()), ())).bind fun r_3 =>
  let t16_4 : Bool := !decide (r_3.1.1 = r_1.1.1)
  guardR (!t16_4) (some ()) () fun _ =>
  guardR (!t16_4) (some ()) () fun _ =>
  guardR (!t16_4) (some (!decide (r_2.1.2.1 = r_1.1.1))) false fun v_5 =>
  bif (bif t16_4 then true else v_5) then
    some ((false, ()), ())
  else
  bif (!decide (r_1.1.1 = 0)) then
    let t25_8 : Bool := isNil11 r_2.1.1
    guardR t25_8 law09_lives ((false, ()), ()) fun r_9 =>
    some (((bif t25_8 then r_9.1.1 else false), ()), ())
  else
  bif (isNil11 r_2.1.1) then
    some ((false, ()), ())
  else
  (law09_typeOf_f6b r_2.1.1).bind fun r_12 =>
  ref09_Table.bind fun r_13 =>
  (Option.map (fun _ => x_0.1) (ckI x_0.1 r_13.1.1.length)).bind fun v_14 =>
  ((((((((rdI r_13.1.1 v_14).map (·.2)).map (·.2)).map (·.2)).map (·.2)).map (·.2)).map (·.2)).map (·.1)).bind fun v_15 =>
  let t39_16 : Bool := decide (r_12.1.1 = v_15)
  guardR t39_16 (some ()) () fun _ =>
  guardR t39_16 (match r_2.1.1 with | .inl y => code_Push_Op y | .inr y => match y with | .inl y => code_Place_Op y | .inr y => match y with | .inl y => code_Cell_Op y | .inr y => match y with | .inl y => code_One_Op y | .inr y => match y with | .inl y => code_Part_Op y | .inr y => match y with | .inl y => code_Heads_Op y | .inr y => match y with | .inl y => code_Gone_Op y | .inr y => match y with | .inl y => code_Two_Op y | .inr y => match y with | .inl y => code_Slot_Op y | .inr y => match y with | .inl y => code_Jump_Op y | .inr y => match y with | .inl y => code_Stop_Op y | .inr y => none) ((0, ()), ()) fun r_17 =>
  guardR t39_16 (some ()) () fun _ =>
  guardR t39_16 (some x_0.1) 0 fun v_18 =>
  guardR t39_16 (some (decide (r_17.1.1 = v_18))) false fun v_19 =>
  let t46_20 : Bool := bif t39_16 then v_19 else false
  guardR t46_20 law09_lives ((false, ()), ()) fun r_21 =>
  some (((bif t46_20 then r_21.1.1 else false), ()), ())

noncomputable def sg4 : Sig := ⟨[.val (.agg (.pair (.int .i64) (.pair (.int .i64) (.pair (.int .i64) (.pair (.agg (.pair (.int .i64) (.pair (.int .u64) (.pair (.int .u64) .unit)))) .unit)))))], [.val .bool], []⟩
noncomputable def sm4 : CSem := mkSem sg4 fun x => law09_CodeMakes x.1
noncomputable def cf4 : Cfg := cfs [(15, sem15), (16, sem16), (17, sem17), (14, sem14), (18, sem18), (8, sem8), (81, sem81), (82, sem82), (83, sem83), (84, sem84), (85, sem85), (86, sem86), (87, sem87), (88, sem88), (89, sem89), (90, sem90), (91, sem91)] 50 0 []

noncomputable def sem4 : CSem := sm4

end Go.Proofs.Ytgaeodfbejbbeaa

namespace Go.Proofs.Ytgaeodfbejbbeaa
open Go Go.Pv Go.Proofs Go.L
set_option maxRecDepth 100000

theorem r37 (x : ArgT ag37) : runFAM cf37 ag37 al37 (bodyOf Try.f37) [(10, some 83)] x = code_both x.1 x.2.1 x.2.2.1 x.2.2.2.1 x.2.2.2.2.1 := by kernel_rfl

theorem r22a (x : ArgT ag22a) : runFAM cf22a ag22a al22a (bodyOf Try.f22) [(2, some 27), (3, none)] x = code_Plain_f6b x.1 := by kernel_rfl

theorem r60 (x : ArgT ag60) : runFAM cf60 ag60 al60 (bodyOf Try.f60) [(4, some 117)] x = ref01_Moved x.1 x.2.1 := by kernel_rfl

theorem r35 (x : ArgT ag35) : runFAM cf35 ag35 al35 (bodyOf Try.f35) [(2, some 27)] x = code_plain_f6b x.1 := by kernel_rfl

theorem r18f (x : ArgT sg18f.args) : runFM cf18f sg18f (bodyOf Try.f18) [2] x = law09_typeOf_7b1_d x.1 := by kernel_rfl

theorem r36 (x : ArgT sg36.args) : runFM cf36 sg36 (bodyOf Try.f36) [4] x = code_alike_b2d x.1 x.2.1 := by kernel_rfl

theorem r61 (x : ArgT sg61.args) : runFM cf61 sg61 (bodyOf Try.f61) [4] x = ref01_Less x.1 x.2.1 := by kernel_rfl

theorem r39 (x : ArgT sg39.args) : runFM cf39 sg39 (bodyOf Try.f39) [4] x = word_Text x.1 x.2.1 := by kernel_rfl

theorem r82 (x : ArgT sg82.args) : runFM cf82 sg82 (bodyOf Try.f82) [2] x = code_Place_Op x.1 := by kernel_rfl

theorem r86 (x : ArgT sg86.args) : runFM cf86 sg86 (bodyOf Try.f86) [2] x = code_Heads_Op x.1 := by kernel_rfl

theorem r31 (x : ArgT sg31.args) : runFM cf31 sg31 (bodyOf Try.f31) [2] x = ref09_Digits x.1 := by kernel_rfl

theorem r16 (x : ArgT sg16.args) : runFM cf16 sg16 (bodyOf Try.f16) [2, 3] x = code_Make x.1 := by kernel_rfl

theorem r5 (x : ArgT sg5.args) : runFM cf5 sg5 (bodyOf Try.f5) [2] x = law09_CodeLists x.1 := by kernel_rfl

end Go.Proofs.Ytgaeodfbejbbeaa

namespace Go.Proofs.Ytgaeodfbejbbeaa
open Go Go.Pv Go.Proofs Go.L
set_option maxRecDepth 100000

theorem r50 (x : ArgT ag50) : runFAM cf50 ag50 al50 (bodyOf Try.f50) [(4, some 103), (5, none), (6, none)] x = word_Div x.1 x.2.1 := by kernel_rfl

theorem r62 (x : ArgT ag62) : runFAM cf62 ag62 al62 (bodyOf Try.f62) [(4, some 117), (5, none)] x = ref01_Minus x.1 x.2.1 := by kernel_rfl

theorem r22 (x : ArgT ag22) : runFAM cf22 ag22 al22 (bodyOf Try.f22) [(2, some 27), (3, none)] x = code_Plain_127 x.1 := by kernel_rfl

theorem r23 (x : ArgT sg23.args) : runFM cf23 sg23 (bodyOf Try.f23) [4] x = slices_Index_string_string x.1 x.2.1 := by kernel_rfl

theorem r57 (x : ArgT sg57.args) : runFM cf57 sg57 (bodyOf Try.f57) [6, 7] x = bits_Div64 x.1 x.2.1 x.2.2.1 := by kernel_rfl

theorem r63 (x : ArgT sg63.args) : runFM cf63 sg63 (bodyOf Try.f63) [2] x = bits_LeadingZeros64 x.1 := by kernel_rfl

theorem r44 (x : ArgT sg44.args) : runFM cf44 sg44 (bodyOf Try.f44) [4] x = ref01_Text x.1 x.2.1 := by kernel_rfl

theorem r55 (x : ArgT sg55.args) : runFM cf55 sg55 (bodyOf Try.f55) [2, 3] x = ref01_Halves x.1 := by kernel_rfl

theorem r11 (x : ArgT sg11.args) : runFM cf11 sg11 (bodyOf Try.f11) [2, 3] x = code_Effect x.1 := by kernel_rfl

theorem r19 (x : ArgT sg19.args) : runFM cf19 sg19 (bodyOf Try.f19) [2, 3, 4] x = code_All x.1 := by kernel_rfl

theorem r28 (x : ArgT sg28.args) : runFM cf28 sg28 (bodyOf Try.f28) [2] x = code_digits x.1 := by kernel_rfl

theorem r56 (x : ArgT sg56.args) : runFM cf56 sg56 (bodyOf Try.f56) [2] x = bits_Len64 x.1 := by kernel_rfl

theorem r32 (x : ArgT sg32.args) : runFM cf32 sg32 (bodyOf Try.f32) [2] x = ref02_May x.1 := by kernel_rfl

theorem r6 (x : ArgT sg6.args) : runFM cf6 sg6 (bodyOf Try.f6) [2] x = law09_CodeBack x.1 := by kernel_rfl

theorem r48 (x : ArgT sg48.args) : runFM cf48 sg48 (bodyOf Try.f48) [2] x = word_Len x.1 := by kernel_rfl

theorem r27 (x : ArgT sg27.args) : runFM cf27 sg27 (bodyOf Try.f27) [2] x = vec_Text x.1 := by kernel_rfl

theorem r9 (x : ArgT sg9.args) : runFM cf9 sg9 (bodyOf Try.f9) [2, 3] x = code_Find x.1 := by kernel_rfl

theorem r34 (x : ArgT sg34.args) : runFM cf34 sg34 (bodyOf Try.f34) [2] x = vec_May x.1 := by kernel_rfl

theorem r14 (x : ArgT sg14.args) : runFM cf14 sg14 (bodyOf Try.f14) [0] x = law09_lives := by kernel_rfl

theorem r24 (x : ArgT sg24.args) : runFM cf24 sg24 (bodyOf Try.f24) [0] x = code_names := by kernel_rfl

end Go.Proofs.Ytgaeodfbejbbeaa

namespace Go.Proofs.Ytgaeodfbejbbeaa
open Go Go.Pv Go.Proofs Go.L
set_option maxRecDepth 100000

theorem r64 (x : ArgT ag64) : runFAM cf64 ag64 al64 (bodyOf Try.f64) [(6, some 117), (7, none)] x = ref01_Sum x.1 x.2.1 x.2.2.1 := by kernel_rfl

theorem r33 (x : ArgT sg33.args) : runFM cf33 sg33 (bodyOf Try.f33) [6] x = code_within x.1 x.2.1 x.2.2.1 := by kernel_rfl

theorem r21 (x : ArgT ag21) : runFAM cf21 ag21 al21 (bodyOf Try.f21) [(2, some 57)] x = code_Only_f6b x.1 := by kernel_rfl

theorem r54 (x : ArgT ag54) : runFAM cf54 ag54 al54 (bodyOf Try.f54) [(2, some 117)] x = ref01_small x.1 := by kernel_rfl

theorem r18c (x : ArgT sg18c.args) : runFM cf18c sg18c (bodyOf Try.f18) [2] x = law09_typeOf_7b1_b x.1 := by kernel_rfl

theorem r18d (x : ArgT sg18d.args) : runFM cf18d sg18d (bodyOf Try.f18) [2] x = law09_typeOf_7b1_c x.1 := by kernel_rfl

theorem r18e (x : ArgT sg18e.args) : runFM cf18e sg18e (bodyOf Try.f18) [2] x = law09_typeOf_eb7_b x.1 := by kernel_rfl

theorem r40 (x : ArgT ag40) : runFAM cf40 ag40 al40 (bodyOf Try.f40) [(2, some 103)] x = vec_Word x.1 := by kernel_rfl

theorem r18a (x : ArgT sg18a.args) : runFM cf18a sg18a (bodyOf Try.f18) [2] x = law09_typeOf_eb7 x.1 := by kernel_rfl

theorem r18b (x : ArgT sg18b.args) : runFM cf18b sg18b (bodyOf Try.f18) [2] x = law09_typeOf_7b1 x.1 := by kernel_rfl

theorem r18g (x : ArgT sg18g.args) : runFM cf18g sg18g (bodyOf Try.f18) [2] x = law09_typeOf_c29 x.1 := by kernel_rfl

theorem r18h (x : ArgT sg18h.args) : runFM cf18h sg18h (bodyOf Try.f18) [2] x = law09_typeOf_f6b x.1 := by kernel_rfl

theorem r18 (x : ArgT sg18.args) : runFM cf18 sg18 (bodyOf Try.f18) [2] x = law09_typeOf_faa x.1 := by kernel_rfl

end Go.Proofs.Ytgaeodfbejbbeaa

namespace Go.Proofs.Ytgaeodfbejbbeaa
open Go Go.Pv Go.Proofs Go.L
set_option maxRecDepth 100000

theorem r38 (x : ArgT ag38) : runFAM cf38 ag38 al38 (bodyOf Try.f38) [(8, some 83)] x = code_alone x.1 x.2.1 x.2.2.1 x.2.2.2.1 := by kernel_rfl

theorem r53 (x : ArgT ag53) : runFAM cf53 ag53 al53 (bodyOf Try.f53) [(4, some 117), (5, some 117)] x = ref01_Part x.1 x.2.1 := by kernel_rfl

theorem r45 (x : ArgT ag45) : runFAM cf45 ag45 al45 (bodyOf Try.f45) [(4, some 117)] x = ref01_Of x.1 x.2.1 := by kernel_rfl

theorem r65 (x : ArgT ag65) : runFAM cf65 ag65 al65 (bodyOf Try.f65) [(2, some 117)] x = ref01_Turned x.1 := by kernel_rfl

theorem r26 (x : ArgT ag26) : runFAM cf26 ag26 al26 (bodyOf Try.f26) [(2, some 83)] x = code_shapeOf x.1 := by kernel_rfl

theorem r20 (x : ArgT sg20.args) : runFM cf20 sg20 (bodyOf Try.f20) [2, 3] x = code_Target_f6b x.1 := by kernel_rfl

theorem r3 (x : ArgT sg3.args) : runFM cf3 sg3 (bodyOf Try.f3) [4] x = law09_CodeTexts x.1 x.2.1 := by kernel_rfl

theorem r81 (x : ArgT sg81.args) : runFM cf81 sg81 (bodyOf Try.f81) [2] x = code_Push_Op x.1 := by kernel_rfl

theorem r83 (x : ArgT sg83.args) : runFM cf83 sg83 (bodyOf Try.f83) [2] x = code_Cell_Op x.1 := by kernel_rfl

theorem r85 (x : ArgT sg85.args) : runFM cf85 sg85 (bodyOf Try.f85) [2] x = code_Part_Op x.1 := by kernel_rfl

theorem r87 (x : ArgT sg87.args) : runFM cf87 sg87 (bodyOf Try.f87) [2] x = code_Gone_Op x.1 := by kernel_rfl

theorem r89 (x : ArgT sg89.args) : runFM cf89 sg89 (bodyOf Try.f89) [2] x = code_Slot_Op x.1 := by kernel_rfl

theorem r90 (x : ArgT sg90.args) : runFM cf90 sg90 (bodyOf Try.f90) [2] x = code_Jump_Op x.1 := by kernel_rfl

theorem r91 (x : ArgT sg91.args) : runFM cf91 sg91 (bodyOf Try.f91) [2] x = code_Stop_Op x.1 := by kernel_rfl

theorem r84 (x : ArgT sg84.args) : runFM cf84 sg84 (bodyOf Try.f84) [2] x = code_One_Op x.1 := by kernel_rfl

theorem r88 (x : ArgT sg88.args) : runFM cf88 sg88 (bodyOf Try.f88) [2] x = code_Two_Op x.1 := by kernel_rfl

theorem r25 (x : ArgT sg25.args) : runFM cf25 sg25 (bodyOf Try.f25) [2] x = code_known x.1 := by kernel_rfl

theorem r49 (x : ArgT sg49.args) : runFM cf49 sg49 (bodyOf Try.f49) [2] x = word_based x.1 := by kernel_rfl

theorem r30 (x : ArgT sg30.args) : runFM cf30 sg30 (bodyOf Try.f30) [2] x = ref02_Text x.1 := by kernel_rfl

theorem r13 (x : ArgT sg13.args) : runFM cf13 sg13 (bodyOf Try.f13) [2] x = ref09_Text x.1 := by kernel_rfl

theorem r4 (x : ArgT sg4.args) : runFM cf4 sg4 (bodyOf Try.f4) [2] x = law09_CodeMakes x.1 := by kernel_rfl

theorem r10 (x : ArgT sg10.args) : runFM cf10 sg10 (bodyOf Try.f10) [2] x = code_Name x.1 := by kernel_rfl

theorem r47 (x : ArgT sg47.args) : runFM cf47 sg47 (bodyOf Try.f47) [2] x = vec_width x.1 := by kernel_rfl

theorem r12 (x : ArgT sg12.args) : runFM cf12 sg12 (bodyOf Try.f12) [2] x = code_Text x.1 := by kernel_rfl

theorem r46 (x : ArgT sg46.args) : runFM cf46 sg46 (bodyOf Try.f46) [2] x = ref01_Len x.1 := by kernel_rfl

theorem r15 (x : ArgT sg15.args) : runFM cf15 sg15 (bodyOf Try.f15) [2] x = ref09_May x.1 := by kernel_rfl

theorem r17 (x : ArgT sg17.args) : runFM cf17 sg17 (bodyOf Try.f17) [2] x = code_May x.1 := by kernel_rfl

theorem r8 (x : ArgT sg8.args) : runFM cf8 sg8 (bodyOf Try.f8) [0] x = ref09_Table := by kernel_rfl

end Go.Proofs.Ytgaeodfbejbbeaa
