/- The functions of this seat, and the laws as plain Lean. -/
import Derived.Test.YtffgheglileflaaProg
import Derived.Test.YtffgheglileflaaQ6

set_option linter.unusedSimpArgs false
set_option linter.unusedVariables false

namespace Go.Proofs.Ytffgheglileflaa
open Go Go.Pv Go.Proofs Go.L
set_option maxRecDepth 100000

noncomputable def bodyOf (f : Func) : Code := match f.body with | some c => c | none => .skip
noncomputable def cf (tab : List (Nat × CSem)) (nt nob : Nat) (ann : List (Nat × Shape)) : Cfg := ⟨Try.prog, fun f => lk f tab, nt, nob, fun n => lk n ann⟩
def Tab (tab : List (Nat × CSem)) : Prop := ∀ q ∈ tab, Contract Try.prog q.1 q.2
theorem Tab.nil : Tab [] := fun q h => by cases h
theorem Tab.cons {f : Nat} {sem : CSem} {l : List (Nat × CSem)} (h : Contract Try.prog f sem) (t : Tab l) : Tab ((f, sem) :: l) := fun q hq => by
  rcases List.mem_cons.1 hq with rfl | hq
  · exact h
  · exact t q hq

/-! ### shunter/shunterlaw07.light -/
noncomputable def law07_light_s0 (ops_0_0 : List (Int × Int × Int × Int × (Int × Int × Int × Unit) × (List Int) × (List (Int × Int × Int × Unit)) × (List Int) × Unit)) (i_3_0 : Int) : Option ((((List (Int × Int × Int × Int × (Int × Int × Int × Unit) × (List Int) × (List (Int × Int × Int × Unit)) × (List Int) × Unit)) × Int × Unit) × (Unit)) ⊕ ((Bool × Unit) × (Unit))) :=
  bif (decide (i_3_0 < (ops_0_0.length : Int))) then
    (rdI ops_0_0 i_3_0).bind fun v_5 =>
    let t19_7 : Bool := decide ((v_5.2.2.2.2.2.2.1.length : Int) > 300)
    guardR (!t19_7) (some ()) () fun _ =>
    guardR (!t19_7) (some ()) () fun _ =>
    guardR (!t19_7) (rdI ops_0_0 i_3_0) (0, 0, 0, 0, (0, 0, 0, ()), [], [], [], ()) fun v_8 =>
    guardR (!t19_7) (some v_8.2.2.2.2.2.2.2.1) [] fun v_9 =>
    guardR (!t19_7) (some ()) () fun _ =>
    guardR (!t19_7) (some (v_9.length : Int)) 0 fun v_10 =>
    guardR (!t19_7) (some (decide (v_10 > 300))) false fun v_11 =>
    let t28_12 : Bool := bif t19_7 then true else v_11
    guardR (!t28_12) (some ()) () fun _ =>
    guardR (!t28_12) (some ()) () fun _ =>
    guardR (!t28_12) (rdI ops_0_0 i_3_0) (0, 0, 0, 0, (0, 0, 0, ()), [], [], [], ()) fun v_13 =>
    guardR (!t28_12) (some v_13.2.2.2.2.2.1) [] fun v_14 =>
    guardR (!t28_12) (some ()) () fun _ =>
    guardR (!t28_12) (some (v_14.length : Int)) 0 fun v_15 =>
    guardR (!t28_12) (some (decide (v_15 > 600))) false fun v_16 =>
    bif (bif t28_12 then true else v_16) then
      some (.inr ((false, ()), ()))
    else
    some (.inl ((ops_0_0, (IntKind.i64.wrap (i_3_0 + 1)), ()), ()))
  else
  some (.inr ((true, ()), ()))
noncomputable def law07_light (ops_0 : List (Int × Int × Int × Int × (Int × Int × Int × Unit) × (List Int) × (List (Int × Int × Int × Unit)) × (List Int) × Unit)) : Option ((Bool × Unit) × (Unit)) :=
  bif (decide ((ops_0.length : Int) > 30)) then
    some ((false, ()), ())
  else
  loopR (fun (z : ((List (Int × Int × Int × Int × (Int × Int × Int × Unit) × (List Int) × (List (Int × Int × Int × Unit)) × (List Int) × Unit)) × Int × Unit) × (Unit)) => law07_light_s0 z.1.1 z.1.2.1) ((ops_0, 0, ()), ())

noncomputable def sg7 : Sig := ⟨[.val (.slice (.agg (.pair (.int .i64) (.pair (.int .i64) (.pair (.int .i64) (.pair (.int .i64) (.pair (.agg (.pair (.int .i64) (.pair (.int .u64) (.pair (.int .u64) .unit)))) (.pair .str (.pair (.slice (.agg (.pair (.int .i64) (.pair (.int .u64) (.pair (.int .u64) .unit))))) (.pair (.slice (.int .i64)) .unit))))))))))], [.val .bool], []⟩
noncomputable def sm7 : CSem := mkSem sg7 fun x => law07_light x.1
noncomputable def cf7 : Cfg := cf [] 38 0 [(0, ⟨[(0, .dat (.slice (.agg (.pair (.int .i64) (.pair (.int .i64) (.pair (.int .i64) (.pair (.int .i64) (.pair (.agg (.pair (.int .i64) (.pair (.int .u64) (.pair (.int .u64) .unit)))) (.pair .str (.pair (.slice (.agg (.pair (.int .i64) (.pair (.int .u64) (.pair (.int .u64) .unit))))) (.pair (.slice (.int .i64)) .unit))))))))))), (3, .dat (.int .i64))], []⟩)]

noncomputable def sem7 : CSem := sm7

noncomputable def sg70 : Sig := ⟨[.val (.int .i64)], [.val .bool], []⟩
noncomputable def sm70 : CSem := mkSem sg70 fun x => vec_width x.1
noncomputable def cf70 : Cfg := cf [] 9 0 []

noncomputable def sem70 : CSem := sm70

noncomputable def ag65 : List AK := [.val (.agg (.pair (.int .i64) (.pair (.int .u64) (.pair (.int .u64) .unit))))]
noncomputable def al65 : List Alt := [([.val (.agg (.pair (.int .u64) (.pair (.int .u64) .unit)))], [])]
noncomputable def sm65 : CSem := mkSemA ag65 al65 fun x => vec_Word x.1
noncomputable def cf65 : Cfg := cf [] 8 0 []

noncomputable def sem65 : CSem := sm65

noncomputable def sg90 : Sig := ⟨[.val (.int .u64)], [.val (.int .i64)], []⟩
noncomputable def sm90 : CSem := mkSem sg90 fun x => bits_Len64 x.1
noncomputable def cf90 : Cfg := cf [] 25 0 []

noncomputable def sem90 : CSem := sm90

noncomputable def sg80 : Sig := ⟨[.val (.agg (.pair (.int .u64) (.pair (.int .u64) .unit)))], [.val (.int .i64)], []⟩
noncomputable def sm80 : CSem := mkSem sg80 fun x => word_Len x.1
noncomputable def cf80 : Cfg := cf [(90, sem90)] 13 0 []

noncomputable def sem80 : CSem := sm80

noncomputable def sg62 : Sig := ⟨[.val (.agg (.pair (.int .i64) (.pair (.int .u64) (.pair (.int .u64) .unit))))], [.val .bool], []⟩
noncomputable def sm62 : CSem := mkSem sg62 fun x => vec_May x.1
noncomputable def cf62 : Cfg := cf [(70, sem70), (65, sem65), (80, sem80)] 14 0 []

noncomputable def sem62 : CSem := sm62

noncomputable def sg45 : Sig := ⟨[.val (.slice (.int .u8))], [.own (.own (.int .u8))], []⟩
noncomputable def sm45 : CSem := mkSem sg45 fun x => bytes_Clone x.1
noncomputable def cf45 : Cfg := cf [] 8 0 []

noncomputable def sem45 : CSem := sm45

noncomputable def sg81 : Sig := ⟨[.val (.slice (.int .u8))], [.own (.app (.int .u8))], []⟩
noncomputable def sm81 : CSem := mkSem sg81 fun x => slices_Clip_byte_byte x.1
noncomputable def cf81 : Cfg := cf [] 9 0 []

noncomputable def sem81 : CSem := sm81

noncomputable def sg63 : Sig := ⟨[.val (.slice (.int .u8)), .val (.int .i64), .val (.int .i64)], [.own (.app (.int .u8))], []⟩
noncomputable def sm63 : CSem := mkSem sg63 fun x => wire_put x.1 x.2.1 x.2.2.1
noncomputable def cf63 : Cfg := cf [(45, sem45), (81, sem81)] 29 0 [(0, ⟨[(1, .dat (.int .i64)), (2, .dat (.int .i64)), (7, .own (.int .u8) true), (12, .dat (.int .i64)), (13, .dat (.int .i64))], []⟩)]

noncomputable def sem63 : CSem := sm63

noncomputable def sg49 : Sig := ⟨[.val (.int .i64)], [.val (.int .i64)], []⟩
noncomputable def sm49 : CSem := mkSem sg49 fun x => wire_room x.1
noncomputable def cf49 : Cfg := cf [] 7 0 []

noncomputable def sem49 : CSem := sm49

noncomputable def ag51 : List AK := [.val (.agg (.pair (.int .u64) (.pair (.int .u64) .unit))), .val (.int .i64)]
noncomputable def al51 : List Alt := [([.val (.agg (.pair (.int .u64) (.pair (.int .u64) .unit)))], [])]
noncomputable def sm51 (word_Shl : (Int × Int × Unit) → Int → Option (((Int × Int × Unit) × Unit) × (Unit))) : CSem := mkSemA ag51 al51 fun x => word_Shl x.1 x.2.1
noncomputable def ag64 : List AK := [.val (.agg (.pair (.int .u64) (.pair (.int .u64) .unit))), .val (.int .i64)]
noncomputable def al64 : List Alt := [([.val (.agg (.pair (.int .u64) (.pair (.int .u64) .unit)))], [])]
noncomputable def sm64 (word_Shr : (Int × Int × Unit) → Int → Option (((Int × Int × Unit) × Unit) × (Unit))) : CSem := mkSemA ag64 al64 fun x => word_Shr x.1 x.2.1
noncomputable def cf51 (word_Shl : (Int × Int × Unit) → Int → Option (((Int × Int × Unit) × Unit) × (Unit))) (word_Shr : (Int × Int × Unit) → Int → Option (((Int × Int × Unit) × Unit) × (Unit))) : Cfg := cf [(64, sm64 word_Shr)] 48 0 []
noncomputable def cf64 (word_Shl : (Int × Int × Unit) → Int → Option (((Int × Int × Unit) × Unit) × (Unit))) (word_Shr : (Int × Int × Unit) → Int → Option (((Int × Int × Unit) × Unit) × (Unit))) : Cfg := cf [(51, sm51 word_Shl)] 48 0 []

noncomputable def sem51 : CSem := (sm51 word_Shl)

noncomputable def sem64 : CSem := (sm64 word_Shr)

noncomputable def sg31 : Sig := ⟨[.val (.slice (.int .u8)), .val (.agg (.pair (.int .i64) (.pair (.int .u64) (.pair (.int .u64) .unit))))], [.own (.app (.int .u8))], []⟩
noncomputable def sm31 : CSem := mkSem sg31 fun x => wire_Vec x.1 x.2.1
noncomputable def cf31 : Cfg := cf [(62, sem62), (63, sem63), (49, sem49), (65, sem65), (64, sem64)] 35 0 [(0, ⟨[(3, .loc (nameOf 3 0) []), (5, .own (.int .u8) true), (6, .dat (.int .i64))], [((nameOf 3 0), (.agg (.pair (.int .i64) (.pair (.int .u64) (.pair (.int .u64) .unit)))))]⟩)]

noncomputable def sem31 : CSem := sm31

/-! ### shunter/shunterlaw07.lives -/
noncomputable def law07_lives : Option ((Bool × Unit) × (Unit)) :=
  (wire_Vec [] (12, 0, 2748, ())).bind fun r_1 =>
  some (((decide (r_1.1.1 = [12, 10, 188])), ()), ())

noncomputable def sg8 : Sig := ⟨[], [.val .bool], []⟩
noncomputable def sm8 : CSem := mkSem sg8 fun x => law07_lives
noncomputable def cf8 : Cfg := cf [(31, sem31)] 7 0 []

noncomputable def sem8 : CSem := sm8

noncomputable def sg32 : Sig := ⟨[.val (.slice (.int .u8)), .val (.int .i64)], [.own (.app (.int .u8))], []⟩
noncomputable def sm32 : CSem := mkSem sg32 fun x => wire_Byte x.1 x.2.1
noncomputable def cf32 : Cfg := cf [(63, sem63)] 8 0 []

noncomputable def sem32 : CSem := sm32

noncomputable def ag42 : List AK := [.val (.int .u64), .val (.int .u64)]
noncomputable def al42 : List Alt := [([.val (.agg (.arr 128 .bool))], [])]
noncomputable def sm42 : CSem := mkSemA ag42 al42 fun x => ref01_Of x.1 x.2.1
noncomputable def cf42 : Cfg := cf [] 27 0 [(0, ⟨[(0, .dat (.int .u64)), (1, .dat (.int .u64)), (4, .loc (nameOf 4 0) []), (5, .loc (nameOf 5 0) []), (6, .dat (.int .i64))], [((nameOf 4 0), (.agg (.arr 128 .bool))), ((nameOf 5 0), (.agg (.arr 128 .bool)))]⟩)]

noncomputable def sem42 : CSem := sm42

noncomputable def sg66 : Sig := ⟨[.val (.agg (.pair (.int .i64) (.pair (.int .u64) (.pair (.int .u64) .unit))))], [.own (.own .bool)], []⟩
noncomputable def sm66 : CSem := mkSem sg66 fun x => ref02_Bits x.1
noncomputable def cf66 : Cfg := cf [(42, sem42)] 28 0 [(0, ⟨[(1, .loc (nameOf 1 0) []), (3, .loc (nameOf 3 0) []), (4, .own .bool false), (5, .dat (.int .i64))], [((nameOf 1 0), (.agg (.pair (.int .i64) (.pair (.int .u64) (.pair (.int .u64) .unit))))), ((nameOf 3 0), (.agg (.arr 128 .bool)))]⟩)]

noncomputable def sem66 : CSem := sm66

noncomputable def sg67 : Sig := ⟨[.val (.slice .bool)], [.own (.own (.int .u8))], []⟩
noncomputable def sm67 : CSem := mkSem sg67 fun x => ref03_Bytes x.1
noncomputable def cf67 : Cfg := cf [] 40 0 [(2, ⟨[(0, .dat (.slice .bool)), (3, .own (.int .u8) false), (4, .dat (.int .i64)), (5, .dat (.int .i64)), (6, .dat (.int .i64))], []⟩), (0, ⟨[(0, .dat (.slice .bool)), (3, .own (.int .u8) false), (4, .dat (.int .i64))], []⟩)]

noncomputable def sem67 : CSem := sm67

noncomputable def sg33 : Sig := ⟨[.val (.int .i64), .val (.int .i64)], [.own (.own (.int .u8))], []⟩
noncomputable def sm33 : CSem := mkSem sg33 fun x => ref07_Number x.1 x.2.1
noncomputable def cf33 : Cfg := cf [(66, sem66), (67, sem67)] 28 0 [(0, ⟨[(5, .own .bool false), (6, .own .bool false), (7, .dat (.int .i64))], []⟩)]

noncomputable def sem33 : CSem := sm33

noncomputable def sg34 : Sig := ⟨[.val (.slice (.int .u8)), .val (.int .i64)], [.own (.app (.int .u8))], []⟩
noncomputable def sm34 : CSem := mkSem sg34 fun x => wire_Two x.1 x.2.1
noncomputable def cf34 : Cfg := cf [(63, sem63)] 8 0 []

noncomputable def sem34 : CSem := sm34

noncomputable def sg35 : Sig := ⟨[.val (.slice (.int .u8)), .val (.int .i64)], [.own (.app (.int .u8))], []⟩
noncomputable def sm35 : CSem := mkSem sg35 fun x => wire_Four x.1 x.2.1
noncomputable def cf35 : Cfg := cf [(63, sem63)] 8 0 []

noncomputable def sem35 : CSem := sm35

noncomputable def sg41 : Sig := ⟨[.val (.agg (.arr 128 .bool))], [.val (.int .i64)], []⟩
noncomputable def sm41 : CSem := mkSem sg41 fun x => ref01_Len x.1
noncomputable def cf41 : Cfg := cf [] 13 0 [(0, ⟨[(1, .loc (nameOf 1 0) []), (3, .dat (.int .i64))], [((nameOf 1 0), (.agg (.arr 128 .bool)))]⟩)]

noncomputable def sem41 : CSem := sm41

noncomputable def sg10 : Sig := ⟨[.val (.agg (.pair (.int .i64) (.pair (.int .u64) (.pair (.int .u64) .unit))))], [.val .bool], []⟩
noncomputable def sm10 : CSem := mkSem sg10 fun x => ref02_May x.1
noncomputable def cf10 : Cfg := cf [(42, sem42), (41, sem41)] 22 0 []

noncomputable def sem10 : CSem := sm10

noncomputable def sg68 : Sig := ⟨[.val (.agg (.pair (.int .i64) (.pair (.int .u64) (.pair (.int .u64) .unit))))], [.own (.own .bool)], []⟩
noncomputable def sm68 : CSem := mkSem sg68 fun x => ref03_Of x.1
noncomputable def cf68 : Cfg := cf [(66, sem66)] 23 0 [(0, ⟨[(3, .own .bool false), (4, .own .bool false), (5, .dat (.int .i64))], []⟩)]

noncomputable def sem68 : CSem := sm68

noncomputable def sg36 : Sig := ⟨[.val (.agg (.pair (.int .i64) (.pair (.int .u64) (.pair (.int .u64) .unit))))], [.own (.own (.int .u8))], []⟩
noncomputable def sm36 : CSem := mkSem sg36 fun x => ref07_Vec x.1
noncomputable def cf36 : Cfg := cf [(10, sem10), (68, sem68), (67, sem67)] 30 0 [(0, ⟨[(1, .loc (nameOf 1 0) []), (3, .own .bool false)], [((nameOf 1 0), (.agg (.pair (.int .i64) (.pair (.int .u64) (.pair (.int .u64) .unit)))))]⟩)]

noncomputable def sem36 : CSem := sm36

noncomputable def sg37 : Sig := ⟨[.val (.slice (.int .u8)), .val .str], [.own (.app (.int .u8))], []⟩
noncomputable def sm37 : CSem := mkSem sg37 fun x => wire_Name x.1 x.2.1
noncomputable def cf37 : Cfg := cf [(63, sem63)] 16 0 []

noncomputable def sem37 : CSem := sm37

noncomputable def sg38 : Sig := ⟨[.val .str], [.own (.own (.int .u8))], []⟩
noncomputable def sm38 : CSem := mkSem sg38 fun x => ref07_Name x.1
noncomputable def cf38 : Cfg := cf [] 13 0 []

noncomputable def sem38 : CSem := sm38

noncomputable def sg39 : Sig := ⟨[.val (.slice (.int .u8)), .val (.slice (.agg (.pair (.int .i64) (.pair (.int .u64) (.pair (.int .u64) .unit)))))], [.own (.app (.int .u8))], []⟩
noncomputable def sm39 : CSem := mkSem sg39 fun x => wire_Vecs x.1 x.2.1
noncomputable def cf39 : Cfg := cf [(63, sem63), (31, sem31)] 28 0 [(0, ⟨[(5, .own (.int .u8) true), (17, .dat (.slice (.agg (.pair (.int .i64) (.pair (.int .u64) (.pair (.int .u64) .unit)))))), (18, .dat (.int .i64)), (19, .dat (.int .i64))], []⟩)]

noncomputable def sem39 : CSem := sm39

noncomputable def sg40 : Sig := ⟨[.val (.slice (.int .u8)), .val (.slice (.int .i64))], [.own (.app (.int .u8))], []⟩
noncomputable def sm40 : CSem := mkSem sg40 fun x => wire_Numbers x.1 x.2.1
noncomputable def cf40 : Cfg := cf [(63, sem63)] 30 0 [(0, ⟨[(5, .own (.int .u8) true), (17, .dat (.slice (.int .i64))), (18, .dat (.int .i64)), (19, .dat (.int .i64))], []⟩)]

noncomputable def sem40 : CSem := sm40

/-! ### shunter/shunterlaw07.write -/
noncomputable def law07_write_s1 (b_0_1 : List Int) (want_6_1 : List Int) (i_7_1 : Int) (p3_0_1 : Int × Int × Int × Int × (Int × Int × Int × Unit) × (List Int) × (List (Int × Int × Int × Unit)) × (List Int) × Unit) : Option ((((List Int) × (List Int) × Int × Unit) × ((Int × Int × Int × Int × (Int × Int × Int × Unit) × (List Int) × (List (Int × Int × Int × Unit)) × (List Int) × Unit) × Unit)) ⊕ (((List Int) × (List Int) × Unit) × (Unit))) :=
  bif (decide (i_7_1 < (p3_0_1.2.2.2.2.2.2.1.length : Int))) then
    (rdI p3_0_1.2.2.2.2.2.2.1 i_7_1).bind fun v_25 =>
    (ref07_Vec v_25).bind fun r_26 =>
    (roomI 1 want_6_1 r_26.1.1).bind fun v_27 =>
    some (.inl ((b_0_1, v_27, (IntKind.i64.wrap (i_7_1 + 1)), ()), (p3_0_1.1, p3_0_1.2.1, p3_0_1.2.2.1, p3_0_1.2.2.2.1, (p3_0_1.2.2.2.2.1.1, p3_0_1.2.2.2.2.1.2.1, p3_0_1.2.2.2.2.1.2.2.1, ()), p3_0_1.2.2.2.2.2.1, p3_0_1.2.2.2.2.2.2.1, p3_0_1.2.2.2.2.2.2.2.1, ()), ()))
  else
  ((wire_Vecs b_0_1 p3_0_1.2.2.2.2.2.2.1).bind fun r_29 =>
  some ((r_29.1.1, want_6_1, ()), ())).map .inr
noncomputable def law07_write_s3 (b_0_3 : List Int) (want_8_3 : List Int) (i_9_3 : Int) (p3_0_3 : Int × Int × Int × Int × (Int × Int × Int × Unit) × (List Int) × (List (Int × Int × Int × Unit)) × (List Int) × Unit) : Option ((((List Int) × (List Int) × Int × Unit) × ((Int × Int × Int × Int × (Int × Int × Int × Unit) × (List Int) × (List (Int × Int × Int × Unit)) × (List Int) × Unit) × Unit)) ⊕ (((List Int) × (List Int) × Unit) × (Unit))) :=
  bif (decide (i_9_3 < (p3_0_3.2.2.2.2.2.2.2.1.length : Int))) then
    (rdI p3_0_3.2.2.2.2.2.2.2.1 i_9_3).bind fun v_40 =>
    (roomI 1 want_8_3 [(IntKind.u8.wrap v_40)]).bind fun v_42 =>
    some (.inl ((b_0_3, v_42, (IntKind.i64.wrap (i_9_3 + 1)), ()), (p3_0_3.1, p3_0_3.2.1, p3_0_3.2.2.1, p3_0_3.2.2.2.1, (p3_0_3.2.2.2.2.1.1, p3_0_3.2.2.2.2.1.2.1, p3_0_3.2.2.2.2.1.2.2.1, ()), p3_0_3.2.2.2.2.2.1, p3_0_3.2.2.2.2.2.2.1, p3_0_3.2.2.2.2.2.2.2.1, ()), ()))
  else
  ((wire_Numbers b_0_3 p3_0_3.2.2.2.2.2.2.2.1).bind fun r_44 =>
  some ((r_44.1.1, want_8_3, ()), ())).map .inr
noncomputable def law07_write (b_0 : List Int) (o_1 : Int × Int × Int × Int × (Int × Int × Int × Unit) × (List Int) × (List (Int × Int × Int × Unit)) × (List Int) × Unit) : Option (((List Int) × (List Int) × Unit) × (Unit)) :=
  bif (decide (o_1.1 = 0)) then
    (wire_Byte b_0 o_1.2.1).bind fun r_2 =>
    (ref07_Number o_1.2.1 1).bind fun r_3 =>
    some ((r_2.1.1, r_3.1.1, ()), ())
  else
  bif (decide (o_1.1 = 1)) then
    (wire_Two b_0 o_1.2.1).bind fun r_5 =>
    (ref07_Number o_1.2.1 2).bind fun r_6 =>
    some ((r_5.1.1, r_6.1.1, ()), ())
  else
  bif (decide (o_1.1 = 2)) then
    (wire_Four b_0 o_1.2.1).bind fun r_8 =>
    (ref07_Number o_1.2.1 4).bind fun r_9 =>
    some ((r_8.1.1, r_9.1.1, ()), ())
  else
  bif (decide (o_1.1 = 3)) then
    (wire_Vec b_0 (o_1.2.2.2.2.1.1, o_1.2.2.2.2.1.2.1, o_1.2.2.2.2.1.2.2.1, ())).bind fun r_11 =>
    (ref07_Vec (o_1.2.2.2.2.1.1, o_1.2.2.2.2.1.2.1, o_1.2.2.2.2.1.2.2.1, ())).bind fun r_12 =>
    some ((r_11.1.1, r_12.1.1, ()), ())
  else
  bif (decide (o_1.1 = 4)) then
    (wire_Name b_0 o_1.2.2.2.2.2.1).bind fun r_14 =>
    (ref07_Name o_1.2.2.2.2.2.1).bind fun r_15 =>
    some ((r_14.1.1, r_15.1.1, ()), ())
  else
  bif (decide (o_1.1 = 5)) then
    bif (decide ((o_1.2.2.2.2.2.2.1.length : Int) ≤ 255)) then
      (Option.map (fun _ => 0) (ckI 0 [0].length)).bind fun v_21 =>
      (stI [0] v_21 (IntKind.u8.wrap (o_1.2.2.2.2.2.2.1.length : Int))).bind fun v_22 =>
      loopR (fun (z : ((List Int) × (List Int) × Int × Unit) × ((Int × Int × Int × Int × (Int × Int × Int × Unit) × (List Int) × (List (Int × Int × Int × Unit)) × (List Int) × Unit) × Unit)) => law07_write_s1 z.1.1 z.1.2.1 z.1.2.2.1 z.2.1) ((b_0, v_22, 0, ()), (o_1.1, o_1.2.1, o_1.2.2.1, o_1.2.2.2.1, (o_1.2.2.2.2.1.1, o_1.2.2.2.2.1.2.1, o_1.2.2.2.2.1.2.2.1, ()), o_1.2.2.2.2.2.1, o_1.2.2.2.2.2.2.1, o_1.2.2.2.2.2.2.2.1, ()), ())
    else
    (wire_Vecs b_0 o_1.2.2.2.2.2.2.1).bind fun r_30 =>
    some ((r_30.1.1, [0], ()), ())
  else
  bif (decide (o_1.1 = 6)) then
    bif (decide ((o_1.2.2.2.2.2.2.2.1.length : Int) ≤ 255)) then
      (Option.map (fun _ => 0) (ckI 0 [0].length)).bind fun v_36 =>
      (stI [0] v_36 (IntKind.u8.wrap (o_1.2.2.2.2.2.2.2.1.length : Int))).bind fun v_37 =>
      loopR (fun (z : ((List Int) × (List Int) × Int × Unit) × ((Int × Int × Int × Int × (Int × Int × Int × Unit) × (List Int) × (List (Int × Int × Int × Unit)) × (List Int) × Unit) × Unit)) => law07_write_s3 z.1.1 z.1.2.1 z.1.2.2.1 z.2.1) ((b_0, v_37, 0, ()), (o_1.1, o_1.2.1, o_1.2.2.1, o_1.2.2.2.1, (o_1.2.2.2.2.1.1, o_1.2.2.2.2.1.2.1, o_1.2.2.2.2.1.2.2.1, ()), o_1.2.2.2.2.2.1, o_1.2.2.2.2.2.2.1, o_1.2.2.2.2.2.2.2.1, ()), ())
    else
    (wire_Numbers b_0 o_1.2.2.2.2.2.2.2.1).bind fun r_45 =>
    some ((r_45.1.1, [0], ()), ())
  else
  some ((b_0, [], ()), ())

noncomputable def sg9 : Sig := ⟨[.val (.slice (.int .u8)), .val (.agg (.pair (.int .i64) (.pair (.int .i64) (.pair (.int .i64) (.pair (.int .i64) (.pair (.agg (.pair (.int .i64) (.pair (.int .u64) (.pair (.int .u64) .unit)))) (.pair .str (.pair (.slice (.agg (.pair (.int .i64) (.pair (.int .u64) (.pair (.int .u64) .unit))))) (.pair (.slice (.int .i64)) .unit)))))))))], [.val (.slice (.int .u8)), .own (.own (.int .u8))], []⟩
noncomputable def sm9 : CSem := mkSem sg9 fun x => law07_write x.1 x.2.1
noncomputable def cf9 : Cfg := cf [(32, sem32), (33, sem33), (34, sem34), (35, sem35), (31, sem31), (36, sem36), (37, sem37), (38, sem38), (39, sem39), (40, sem40)] 125 0 [(1, ⟨[(0, .dat (.slice (.int .u8))), (3, .loc (nameOf 3 0) []), (6, .own (.int .u8) false), (7, .dat (.int .i64))], [((nameOf 3 0), (.agg (.pair (.int .i64) (.pair (.int .i64) (.pair (.int .i64) (.pair (.int .i64) (.pair (.agg (.pair (.int .i64) (.pair (.int .u64) (.pair (.int .u64) .unit)))) (.pair .str (.pair (.slice (.agg (.pair (.int .i64) (.pair (.int .u64) (.pair (.int .u64) .unit))))) (.pair (.slice (.int .i64)) .unit))))))))))]⟩), (3, ⟨[(0, .dat (.slice (.int .u8))), (3, .loc (nameOf 3 0) []), (8, .own (.int .u8) false), (9, .dat (.int .i64))], [((nameOf 3 0), (.agg (.pair (.int .i64) (.pair (.int .i64) (.pair (.int .i64) (.pair (.int .i64) (.pair (.agg (.pair (.int .i64) (.pair (.int .u64) (.pair (.int .u64) .unit)))) (.pair .str (.pair (.slice (.agg (.pair (.int .i64) (.pair (.int .u64) (.pair (.int .u64) .unit))))) (.pair (.slice (.int .i64)) .unit))))))))))]⟩)]

noncomputable def sem9 : CSem := sm9

/-! ### shunter/shunterlaw07.WireWrites -/
noncomputable def law07_WireWrites_s0 (ops_0_0 : List (Int × Int × Int × Int × (Int × Int × Int × Unit) × (List Int) × (List (Int × Int × Int × Unit)) × (List Int) × Unit)) (b_3_0 : List Int) (i_4_0 : Int) : Option ((((List (Int × Int × Int × Int × (Int × Int × Int × Unit) × (List Int) × (List (Int × Int × Int × Unit)) × (List Int) × Unit)) × (List Int) × Int × Unit) × (Unit)) ⊕ ((Bool × Unit) × (Unit))) :=
  bif (decide (i_4_0 < (ops_0_0.length : Int))) then
    (rdI ops_0_0 i_4_0).bind fun v_5 =>
    (law07_write b_3_0 v_5).bind fun r_6 =>
    (catI b_3_0 r_6.1.2.1).bind fun v_7 =>
    bif (!decide (r_6.1.1 = v_7)) then
      some (.inr ((false, ()), ()))
    else
    some (.inl ((ops_0_0, r_6.1.1, (IntKind.i64.wrap (i_4_0 + 1)), ()), ()))
  else
  (law07_lives.bind fun r_10 =>
  some ((r_10.1.1, ()), ())).map .inr
noncomputable def law07_WireWrites (ops_0 : List (Int × Int × Int × Int × (Int × Int × Int × Unit) × (List Int) × (List (Int × Int × Int × Unit)) × (List Int) × Unit)) : Option ((Bool × Unit) × (Unit)) :=
  (law07_light ops_0).bind fun r_1 =>
  bif !r_1.1.1 then
    law07_lives.bind fun r_2 =>
    some ((r_2.1.1, ()), ())
  else
  loopR (fun (z : ((List (Int × Int × Int × Int × (Int × Int × Int × Unit) × (List Int) × (List (Int × Int × Int × Unit)) × (List Int) × Unit)) × (List Int) × Int × Unit) × (Unit)) => law07_WireWrites_s0 z.1.1 z.1.2.1 z.1.2.2.1) ((ops_0, [], 0, ()), ())

noncomputable def sg3 : Sig := ⟨[.val (.slice (.agg (.pair (.int .i64) (.pair (.int .i64) (.pair (.int .i64) (.pair (.int .i64) (.pair (.agg (.pair (.int .i64) (.pair (.int .u64) (.pair (.int .u64) .unit)))) (.pair .str (.pair (.slice (.agg (.pair (.int .i64) (.pair (.int .u64) (.pair (.int .u64) .unit))))) (.pair (.slice (.int .i64)) .unit))))))))))], [.val .bool], []⟩
noncomputable def sm3 : CSem := mkSem sg3 fun x => law07_WireWrites x.1
noncomputable def cf3 : Cfg := cf [(7, sem7), (8, sem8), (9, sem9)] 36 0 [(0, ⟨[(0, .dat (.slice (.agg (.pair (.int .i64) (.pair (.int .i64) (.pair (.int .i64) (.pair (.int .i64) (.pair (.agg (.pair (.int .i64) (.pair (.int .u64) (.pair (.int .u64) .unit)))) (.pair .str (.pair (.slice (.agg (.pair (.int .i64) (.pair (.int .u64) (.pair (.int .u64) .unit))))) (.pair (.slice (.int .i64)) .unit))))))))))), (3, .dat (.slice (.int .u8))), (4, .dat (.int .i64))], []⟩)]

noncomputable def sem3 : CSem := sm3

noncomputable def sg58 : Sig := ⟨[.obj (.agg (.pair (.slice (.int .u8)) (.pair (.int .i64) (.pair .nilp .unit)))), .val (.int .i64), .val (.int .i64)], [], [(.agg (.pair (.slice (.int .u8)) (.pair (.int .i64) (.pair (.ptr (.agg (.pair (.int .i64) (.pair (.int .i64) .unit)))) .unit))))]⟩
noncomputable def sm58 : CSem := mkSem sg58 fun x => wire_cursor_fail_36a x.1 x.2.1 x.2.2.1
noncomputable def cf58 : Cfg := cf [] 22 1 []

noncomputable def sg58a : Sig := ⟨[.obj (.agg (.pair (.slice (.int .u8)) (.pair (.int .i64) (.pair (.ptr (.agg (.pair (.int .i64) (.pair (.int .i64) .unit)))) .unit)))), .val (.int .i64), .val (.int .i64)], [], [(.agg (.pair (.slice (.int .u8)) (.pair (.int .i64) (.pair (.ptr (.agg (.pair (.int .i64) (.pair (.int .i64) .unit)))) .unit))))]⟩
noncomputable def sm58a : CSem := mkSem sg58a fun x => wire_cursor_fail_ba6 x.1 x.2.1 x.2.2.1
noncomputable def cf58a : Cfg := cf [] 22 1 []

noncomputable def sem58 : CSem := orSem sm58 (sm58a)

noncomputable def sg25 : Sig := ⟨[.val .nilp, .val (.int .i64)], [], []⟩
noncomputable def sm25 : CSem := mkSem sg25 fun x => wire_Reader_Fail_d6c x.1 x.2.1
noncomputable def cf25 : Cfg := cf [] 16 0 []

noncomputable def sg25a : Sig := ⟨[.obj (.agg (.pair (.agg (.pair (.slice (.int .u8)) (.pair (.int .i64) (.pair (.ptr (.agg (.pair (.int .i64) (.pair (.int .i64) .unit)))) .unit)))) .unit)), .val (.int .i64)], [], [(.agg (.pair (.agg (.pair (.slice (.int .u8)) (.pair (.int .i64) (.pair (.ptr (.agg (.pair (.int .i64) (.pair (.int .i64) .unit)))) .unit)))) .unit))]⟩
noncomputable def sm25a : CSem := mkSem sg25a fun x => wire_Reader_Fail_e57 x.1 x.2.1
noncomputable def cf25a : Cfg := cf [(58, sem58)] 16 1 []

noncomputable def sem25 : CSem := orSem sm25 (sm25a)

noncomputable def sg23 : Sig := ⟨[.val .nilp], [.val .bool], []⟩
noncomputable def sm23 : CSem := mkSem sg23 fun x => wire_Reader_Bad_d35 x.1
noncomputable def cf23 : Cfg := cf [] 13 0 []

noncomputable def sg23a : Sig := ⟨[.obj (.agg (.pair (.agg (.pair (.slice (.int .u8)) (.pair (.int .i64) (.pair (.ptr (.agg (.pair (.int .i64) (.pair (.int .i64) .unit)))) .unit)))) .unit))], [.val .bool], [(.agg (.pair (.agg (.pair (.slice (.int .u8)) (.pair (.int .i64) (.pair (.ptr (.agg (.pair (.int .i64) (.pair (.int .i64) .unit)))) .unit)))) .unit))]⟩
noncomputable def sm23a : CSem := mkSem sg23a fun x => wire_Reader_Bad_59d x.1
noncomputable def cf23a : Cfg := cf [] 13 1 []

noncomputable def sem23 : CSem := orSem sm23 (sm23a)

noncomputable def sg20 : Sig := ⟨[.val .nilp], [.val (.int .i64)], []⟩
noncomputable def sm20 : CSem := mkSem sg20 fun x => wire_Reader_Left_d35 x.1
noncomputable def cf20 : Cfg := cf [] 17 0 []

noncomputable def sg20a : Sig := ⟨[.obj (.agg (.pair (.agg (.pair (.slice (.int .u8)) (.pair (.int .i64) (.pair (.ptr (.agg (.pair (.int .i64) (.pair (.int .i64) .unit)))) .unit)))) .unit))], [.val (.int .i64)], [(.agg (.pair (.agg (.pair (.slice (.int .u8)) (.pair (.int .i64) (.pair (.ptr (.agg (.pair (.int .i64) (.pair (.int .i64) .unit)))) .unit)))) .unit))]⟩
noncomputable def sm20a : CSem := mkSem sg20a fun x => wire_Reader_Left_59d x.1
noncomputable def cf20a : Cfg := cf [] 17 1 []

noncomputable def sem20 : CSem := orSem sm20 (sm20a)

noncomputable def sg19 : Sig := ⟨[.val .nilp], [.val (.alt 60 (.ptr (.agg (.pair (.int .i64) (.pair (.int .i64) .unit)))) .nili)], []⟩
noncomputable def sm19 : CSem := mkSem sg19 fun x => wire_Reader_End_d35 x.1
noncomputable def cf19 : Cfg := cf [] 47 0 []

noncomputable def sg19a : Sig := ⟨[.obj (.agg (.pair (.agg (.pair (.slice (.int .u8)) (.pair (.int .i64) (.pair (.ptr (.agg (.pair (.int .i64) (.pair (.int .i64) .unit)))) .unit)))) .unit))], [.val (.alt 60 (.ptr (.agg (.pair (.int .i64) (.pair (.int .i64) .unit)))) .nili)], [(.agg (.pair (.agg (.pair (.slice (.int .u8)) (.pair (.int .i64) (.pair (.ptr (.agg (.pair (.int .i64) (.pair (.int .i64) .unit)))) .unit)))) .unit))]⟩
noncomputable def sm19a : CSem := mkSem sg19a fun x => wire_Reader_End_59d x.1
noncomputable def cf19a : Cfg := cf [(20, sem20)] 47 1 []

noncomputable def sem19 : CSem := orSem sm19 (sm19a)

noncomputable def sg18 : Sig := ⟨[.val (.alt 60 (.ptr (.agg (.pair (.int .i64) (.pair (.int .i64) .unit)))) .nili)], [.val (.int .i64), .val (.int .i64)], []⟩
noncomputable def sm18 : CSem := mkSem sg18 fun x => wire_Why_8d8 x.1
noncomputable def cf18 : Cfg := cf [] 27 0 []

noncomputable def sem18 : CSem := sm18

noncomputable def sg48 : Sig := ⟨[.obj (.agg (.pair (.slice (.int .u8)) (.pair (.int .i64) (.pair .nilp .unit)))), .val (.int .i64)], [.val (.slice (.int .u8)), .val .bool], [(.agg (.pair (.slice (.int .u8)) (.pair (.int .i64) (.pair .nilp .unit))))]⟩
noncomputable def sm48 : CSem := mkSem sg48 fun x => wire_cursor_take_1ca x.1 x.2.1
noncomputable def cf48 : Cfg := cf [] 48 1 []

noncomputable def sg48a : Sig := ⟨[.obj (.agg (.pair (.slice (.int .u8)) (.pair (.int .i64) (.pair (.ptr (.agg (.pair (.int .i64) (.pair (.int .i64) .unit)))) .unit)))), .val (.int .i64)], [.val (.slice (.int .u8)), .val .bool], [(.agg (.pair (.slice (.int .u8)) (.pair (.int .i64) (.pair (.ptr (.agg (.pair (.int .i64) (.pair (.int .i64) .unit)))) .unit))))]⟩
noncomputable def sm48a : CSem := mkSem sg48a fun x => wire_cursor_take_c4f x.1 x.2.1
noncomputable def cf48a : Cfg := cf [] 48 1 []

noncomputable def sem48 : CSem := orSem sm48 (sm48a)

noncomputable def sg46 : Sig := ⟨[.val .nilp, .val (.int .i64), .val (.int .i64)], [.val (.int .i64)], []⟩
noncomputable def sm46 : CSem := mkSem sg46 fun x => wire_Reader_number_639 x.1 x.2.1 x.2.2.1
noncomputable def cf46 : Cfg := cf [] 61 0 []

noncomputable def sg46a : Sig := ⟨[.obj (.agg (.pair (.agg (.pair (.slice (.int .u8)) (.pair (.int .i64) (.pair .nilp .unit)))) .unit)), .val (.int .i64), .val (.int .i64)], [.val (.int .i64)], [(.agg (.pair (.agg (.pair (.slice (.int .u8)) (.pair (.int .i64) (.pair (.ptr (.agg (.pair (.int .i64) (.pair (.int .i64) .unit)))) .unit)))) .unit))]⟩
noncomputable def sm46a : CSem := mkSem sg46a fun x => wire_Reader_number_395 x.1 x.2.1 x.2.2.1
noncomputable def cf46a : Cfg := cf [(48, sem48), (58, sem58)] 61 1 [(0, ⟨[(0, .loc (objName 0) []), (2, .dat (.int .i64)), (7, .dat (.int .i64)), (10, .dat (.int .i64)), (35, .dat (.slice (.int .u8))), (36, .dat (.int .i64)), (37, .dat (.int .i64))], [((objName 0), (.agg (.pair (.agg (.pair (.slice (.int .u8)) (.pair (.int .i64) (.pair .nilp .unit)))) .unit)))]⟩)]

noncomputable def sg46b : Sig := ⟨[.obj (.agg (.pair (.agg (.pair (.slice (.int .u8)) (.pair (.int .i64) (.pair (.ptr (.agg (.pair (.int .i64) (.pair (.int .i64) .unit)))) .unit)))) .unit)), .val (.int .i64), .val (.int .i64)], [.val (.int .i64)], [(.agg (.pair (.agg (.pair (.slice (.int .u8)) (.pair (.int .i64) (.pair (.ptr (.agg (.pair (.int .i64) (.pair (.int .i64) .unit)))) .unit)))) .unit))]⟩
noncomputable def sm46b : CSem := mkSem sg46b fun x => wire_Reader_number_28a x.1 x.2.1 x.2.2.1
noncomputable def cf46b : Cfg := cf [(48, sem48), (58, sem58)] 61 1 [(0, ⟨[(0, .loc (objName 0) []), (2, .dat (.int .i64)), (7, .dat (.int .i64)), (10, .dat (.int .i64)), (35, .dat (.slice (.int .u8))), (36, .dat (.int .i64)), (37, .dat (.int .i64))], [((objName 0), (.agg (.pair (.agg (.pair (.slice (.int .u8)) (.pair (.int .i64) (.pair (.ptr (.agg (.pair (.int .i64) (.pair (.int .i64) .unit)))) .unit)))) .unit)))]⟩)]

noncomputable def sem46 : CSem := orSem sm46 (orSem sm46a (sm46b))

noncomputable def sg13 : Sig := ⟨[.val .nilp, .val (.int .i64)], [.val (.int .i64)], []⟩
noncomputable def sm13 : CSem := mkSem sg13 fun x => wire_Reader_Byte_d6c x.1 x.2.1
noncomputable def cf13 : Cfg := cf [(46, sem46)] 8 0 []

noncomputable def sg13a : Sig := ⟨[.obj (.agg (.pair (.agg (.pair (.slice (.int .u8)) (.pair (.int .i64) (.pair .nilp .unit)))) .unit)), .val (.int .i64)], [.val (.int .i64)], [(.agg (.pair (.agg (.pair (.slice (.int .u8)) (.pair (.int .i64) (.pair (.ptr (.agg (.pair (.int .i64) (.pair (.int .i64) .unit)))) .unit)))) .unit))]⟩
noncomputable def sm13a : CSem := mkSem sg13a fun x => wire_Reader_Byte_db0 x.1 x.2.1
noncomputable def cf13a : Cfg := cf [(46, sem46)] 8 1 []

noncomputable def sg13b : Sig := ⟨[.obj (.agg (.pair (.agg (.pair (.slice (.int .u8)) (.pair (.int .i64) (.pair (.ptr (.agg (.pair (.int .i64) (.pair (.int .i64) .unit)))) .unit)))) .unit)), .val (.int .i64)], [.val (.int .i64)], [(.agg (.pair (.agg (.pair (.slice (.int .u8)) (.pair (.int .i64) (.pair (.ptr (.agg (.pair (.int .i64) (.pair (.int .i64) .unit)))) .unit)))) .unit))]⟩
noncomputable def sm13b : CSem := mkSem sg13b fun x => wire_Reader_Byte_e57 x.1 x.2.1
noncomputable def cf13b : Cfg := cf [(46, sem46)] 8 1 []

noncomputable def sem13 : CSem := orSem sm13 (orSem sm13a (sm13b))

noncomputable def sg14 : Sig := ⟨[.val .nilp, .val (.int .i64)], [.val (.int .i64)], []⟩
noncomputable def sm14 : CSem := mkSem sg14 fun x => wire_Reader_Two_d6c x.1 x.2.1
noncomputable def cf14 : Cfg := cf [(46, sem46)] 8 0 []

noncomputable def sg14a : Sig := ⟨[.obj (.agg (.pair (.agg (.pair (.slice (.int .u8)) (.pair (.int .i64) (.pair .nilp .unit)))) .unit)), .val (.int .i64)], [.val (.int .i64)], [(.agg (.pair (.agg (.pair (.slice (.int .u8)) (.pair (.int .i64) (.pair (.ptr (.agg (.pair (.int .i64) (.pair (.int .i64) .unit)))) .unit)))) .unit))]⟩
noncomputable def sm14a : CSem := mkSem sg14a fun x => wire_Reader_Two_db0 x.1 x.2.1
noncomputable def cf14a : Cfg := cf [(46, sem46)] 8 1 []

noncomputable def sg14b : Sig := ⟨[.obj (.agg (.pair (.agg (.pair (.slice (.int .u8)) (.pair (.int .i64) (.pair (.ptr (.agg (.pair (.int .i64) (.pair (.int .i64) .unit)))) .unit)))) .unit)), .val (.int .i64)], [.val (.int .i64)], [(.agg (.pair (.agg (.pair (.slice (.int .u8)) (.pair (.int .i64) (.pair (.ptr (.agg (.pair (.int .i64) (.pair (.int .i64) .unit)))) .unit)))) .unit))]⟩
noncomputable def sm14b : CSem := mkSem sg14b fun x => wire_Reader_Two_e57 x.1 x.2.1
noncomputable def cf14b : Cfg := cf [(46, sem46)] 8 1 []

noncomputable def sem14 : CSem := orSem sm14 (orSem sm14a (sm14b))

noncomputable def sg15 : Sig := ⟨[.val .nilp, .val (.int .i64)], [.val (.int .i64)], []⟩
noncomputable def sm15 : CSem := mkSem sg15 fun x => wire_Reader_Four_d6c x.1 x.2.1
noncomputable def cf15 : Cfg := cf [(46, sem46)] 8 0 []

noncomputable def sg15a : Sig := ⟨[.obj (.agg (.pair (.agg (.pair (.slice (.int .u8)) (.pair (.int .i64) (.pair .nilp .unit)))) .unit)), .val (.int .i64)], [.val (.int .i64)], [(.agg (.pair (.agg (.pair (.slice (.int .u8)) (.pair (.int .i64) (.pair (.ptr (.agg (.pair (.int .i64) (.pair (.int .i64) .unit)))) .unit)))) .unit))]⟩
noncomputable def sm15a : CSem := mkSem sg15a fun x => wire_Reader_Four_db0 x.1 x.2.1
noncomputable def cf15a : Cfg := cf [(46, sem46)] 8 1 []

noncomputable def sg15b : Sig := ⟨[.obj (.agg (.pair (.agg (.pair (.slice (.int .u8)) (.pair (.int .i64) (.pair (.ptr (.agg (.pair (.int .i64) (.pair (.int .i64) .unit)))) .unit)))) .unit)), .val (.int .i64)], [.val (.int .i64)], [(.agg (.pair (.agg (.pair (.slice (.int .u8)) (.pair (.int .i64) (.pair (.ptr (.agg (.pair (.int .i64) (.pair (.int .i64) .unit)))) .unit)))) .unit))]⟩
noncomputable def sm15b : CSem := mkSem sg15b fun x => wire_Reader_Four_e57 x.1 x.2.1
noncomputable def cf15b : Cfg := cf [(46, sem46)] 8 1 []

noncomputable def sem15 : CSem := orSem sm15 (orSem sm15a (sm15b))

noncomputable def sg47 : Sig := ⟨[.obj (.agg (.pair (.agg (.pair (.slice (.int .u8)) (.pair (.int .i64) (.pair (.ptr (.agg (.pair (.int .i64) (.pair (.int .i64) .unit)))) .unit)))) .unit)), .val (.int .i64), .val (.int .i64)], [], [(.agg (.pair (.agg (.pair (.slice (.int .u8)) (.pair (.int .i64) (.pair (.ptr (.agg (.pair (.int .i64) (.pair (.int .i64) .unit)))) .unit)))) .unit))]⟩
noncomputable def sm47 : CSem := mkSem sg47 fun x => wire_Reader_back_28a x.1 x.2.1 x.2.2.1
noncomputable def cf47 : Cfg := cf [(58, sem58)] 23 1 []

noncomputable def sem47 : CSem := sm47

noncomputable def ag50 : List AK := [.val (.agg (.pair (.int .u64) (.pair (.int .u64) .unit))), .val (.agg (.pair (.int .u64) (.pair (.int .u64) .unit)))]
noncomputable def al50 : List Alt := [([.val (.agg (.pair (.int .u64) (.pair (.int .u64) .unit)))], [])]
noncomputable def sm50 : CSem := mkSemA ag50 al50 fun x => word_Or x.1 x.2.1
noncomputable def cf50 : Cfg := cf [] 16 0 []

noncomputable def sem50 : CSem := sm50

noncomputable def ag52 : List AK := [.val (.int .i64), .val (.int .u64), .val (.int .u64)]
noncomputable def al52 : List Alt := [([.val (.agg (.pair (.int .i64) (.pair (.int .u64) (.pair (.int .u64) .unit)))), .val (.int .i64)], [])]
noncomputable def sm52 : CSem := mkSemA ag52 al52 fun x => vec_New x.1 x.2.1 x.2.2.1
noncomputable def cf52 : Cfg := cf [(70, sem70), (62, sem62)] 24 0 []

noncomputable def sem52 : CSem := sm52

noncomputable def ag16 : List AK := [.val .nilp]
noncomputable def al16 : List Alt := [([.val (.agg (.pair (.int .i64) (.pair (.int .u64) (.pair (.int .u64) .unit))))], [])]
noncomputable def sm16 : CSem := mkSemA ag16 al16 fun x => wire_Reader_Vec_d35 x.1
noncomputable def cf16 : Cfg := cf [] 75 0 []

noncomputable def ag16a : List AK := [.obj (.agg (.pair (.agg (.pair (.slice (.int .u8)) (.pair (.int .i64) (.pair .nilp .unit)))) .unit))]
noncomputable def al16a : List Alt := [([.val (.agg (.pair (.int .i64) (.pair (.int .u64) (.pair (.int .u64) .unit))))], [(.agg (.pair (.agg (.pair (.slice (.int .u8)) (.pair (.int .i64) (.pair (.ptr (.agg (.pair (.int .i64) (.pair (.int .i64) .unit)))) .unit)))) .unit))])]
noncomputable def sm16a : CSem := mkSemA ag16a al16a fun x => wire_Reader_Vec_316 x.1
noncomputable def cf16a : Cfg := cf [(13, sem13), (47, sem47), (49, sem49), (48, sem48), (51, sem51), (50, sem50), (52, sem52)] 75 1 [(0, ⟨[(0, .loc (objName 0) []), (2, .loc (nameOf 2 0) []), (3, .dat (.int .i64)), (4, .dat (.int .i64)), (7, .loc (nameOf 7 0) []), (47, .dat (.slice (.int .u8))), (48, .dat (.int .i64)), (49, .dat (.int .i64))], [((nameOf 2 0), (.agg (.pair (.int .i64) (.pair (.int .u64) (.pair (.int .u64) .unit))))), ((nameOf 7 0), (.agg (.pair (.int .u64) (.pair (.int .u64) .unit)))), ((objName 0), (.agg (.pair (.agg (.pair (.slice (.int .u8)) (.pair (.int .i64) (.pair (.ptr (.agg (.pair (.int .i64) (.pair (.int .i64) .unit)))) .unit)))) .unit)))]⟩)]

noncomputable def ag16b : List AK := [.obj (.agg (.pair (.agg (.pair (.slice (.int .u8)) (.pair (.int .i64) (.pair (.ptr (.agg (.pair (.int .i64) (.pair (.int .i64) .unit)))) .unit)))) .unit))]
noncomputable def al16b : List Alt := [([.val (.agg (.pair (.int .i64) (.pair (.int .u64) (.pair (.int .u64) .unit))))], [(.agg (.pair (.agg (.pair (.slice (.int .u8)) (.pair (.int .i64) (.pair (.ptr (.agg (.pair (.int .i64) (.pair (.int .i64) .unit)))) .unit)))) .unit))])]
noncomputable def sm16b : CSem := mkSemA ag16b al16b fun x => wire_Reader_Vec_59d x.1
noncomputable def cf16b : Cfg := cf [(13, sem13), (47, sem47), (49, sem49), (48, sem48), (51, sem51), (50, sem50), (52, sem52)] 75 1 [(0, ⟨[(0, .loc (objName 0) []), (2, .loc (nameOf 2 0) []), (3, .dat (.int .i64)), (4, .dat (.int .i64)), (7, .loc (nameOf 7 0) []), (47, .dat (.slice (.int .u8))), (48, .dat (.int .i64)), (49, .dat (.int .i64))], [((nameOf 2 0), (.agg (.pair (.int .i64) (.pair (.int .u64) (.pair (.int .u64) .unit))))), ((nameOf 7 0), (.agg (.pair (.int .u64) (.pair (.int .u64) .unit)))), ((objName 0), (.agg (.pair (.agg (.pair (.slice (.int .u8)) (.pair (.int .i64) (.pair (.ptr (.agg (.pair (.int .i64) (.pair (.int .i64) .unit)))) .unit)))) .unit)))]⟩)]

noncomputable def sem16 : CSem := orSem sm16 (orSem sm16a (sm16b))

noncomputable def sg83 : Sig := ⟨[.val (.int .i32), .val (.int .i32), .val (.int .i32)], [.val .bool], []⟩
noncomputable def sm83 : CSem := mkSem sg83 fun x => name_between x.1 x.2.1 x.2.2.1
noncomputable def cf83 : Cfg := cf [] 15 0 []

noncomputable def sem83 : CSem := sm83

noncomputable def sg71 : Sig := ⟨[.val (.int .i32)], [.val .bool], []⟩
noncomputable def sm71 : CSem := mkSem sg71 fun x => name_Letter x.1
noncomputable def cf71 : Cfg := cf [(83, sem83)] 35 0 []

noncomputable def sem71 : CSem := sm71

noncomputable def sg72 : Sig := ⟨[.val (.int .i32)], [.val .bool], []⟩
noncomputable def sm72 : CSem := mkSem sg72 fun x => name_Digit x.1
noncomputable def cf72 : Cfg := cf [(83, sem83)] 5 0 []

noncomputable def sem72 : CSem := sm72

noncomputable def sg53 : Sig := ⟨[.val .str], [.val .bool], []⟩
noncomputable def sm53 : CSem := mkSem sg53 fun x => name_May x.1
noncomputable def cf53 : Cfg := cf [(71, sem71), (72, sem72)] 39 0 [(0, ⟨[(3, .dat (.int .i64)), (7, .own .iter false)], []⟩)]

noncomputable def sem53 : CSem := sm53

noncomputable def sg17 : Sig := ⟨[.val .nilp], [.val .str], []⟩
noncomputable def sm17 : CSem := mkSem sg17 fun x => wire_Reader_Name_d35 x.1
noncomputable def cf17 : Cfg := cf [] 40 0 []

noncomputable def sg17a : Sig := ⟨[.obj (.agg (.pair (.agg (.pair (.slice (.int .u8)) (.pair (.int .i64) (.pair .nilp .unit)))) .unit))], [.val .str], [(.agg (.pair (.agg (.pair (.slice (.int .u8)) (.pair (.int .i64) (.pair (.ptr (.agg (.pair (.int .i64) (.pair (.int .i64) .unit)))) .unit)))) .unit))]⟩
noncomputable def sm17a : CSem := mkSem sg17a fun x => wire_Reader_Name_316 x.1
noncomputable def cf17a : Cfg := cf [(13, sem13), (48, sem48), (47, sem47), (53, sem53)] 40 1 []

noncomputable def sg17b : Sig := ⟨[.obj (.agg (.pair (.agg (.pair (.slice (.int .u8)) (.pair (.int .i64) (.pair (.ptr (.agg (.pair (.int .i64) (.pair (.int .i64) .unit)))) .unit)))) .unit))], [.val .str], [(.agg (.pair (.agg (.pair (.slice (.int .u8)) (.pair (.int .i64) (.pair (.ptr (.agg (.pair (.int .i64) (.pair (.int .i64) .unit)))) .unit)))) .unit))]⟩
noncomputable def sm17b : CSem := mkSem sg17b fun x => wire_Reader_Name_59d x.1
noncomputable def cf17b : Cfg := cf [(13, sem13), (48, sem48), (47, sem47), (53, sem53)] 40 1 []

noncomputable def sem17 : CSem := orSem sm17 (orSem sm17a (sm17b))

noncomputable def sg59 : Sig := ⟨[.obj (.agg (.pair (.agg (.pair (.slice (.int .u8)) (.pair (.int .i64) (.pair .nilp .unit)))) .unit)), .val (.int .i64)], [.val (.int .i64)], [(.agg (.pair (.agg (.pair (.slice (.int .u8)) (.pair (.int .i64) (.pair (.ptr (.agg (.pair (.int .i64) (.pair (.int .i64) .unit)))) .unit)))) .unit))]⟩
noncomputable def sm59 : CSem := mkSem sg59 fun x => wire_Reader_count_db0 x.1 x.2.1
noncomputable def cf59 : Cfg := cf [(13, sem13), (47, sem47)] 21 1 []

noncomputable def sg59a : Sig := ⟨[.obj (.agg (.pair (.agg (.pair (.slice (.int .u8)) (.pair (.int .i64) (.pair (.ptr (.agg (.pair (.int .i64) (.pair (.int .i64) .unit)))) .unit)))) .unit)), .val (.int .i64)], [.val (.int .i64)], [(.agg (.pair (.agg (.pair (.slice (.int .u8)) (.pair (.int .i64) (.pair (.ptr (.agg (.pair (.int .i64) (.pair (.int .i64) .unit)))) .unit)))) .unit))]⟩
noncomputable def sm59a : CSem := mkSem sg59a fun x => wire_Reader_count_e57 x.1 x.2.1
noncomputable def cf59a : Cfg := cf [(13, sem13), (47, sem47)] 21 1 []

noncomputable def sem59 : CSem := orSem sm59 (sm59a)

noncomputable def sg26 : Sig := ⟨[.val .nilp, .val (.int .i64)], [.val (.nils (.agg (.pair (.int .i64) (.pair (.int .u64) (.pair (.int .u64) .unit)))))], []⟩
noncomputable def sm26 : CSem := mkSem sg26 fun x => wire_Reader_Vecs_d6c x.1 x.2.1
noncomputable def cf26 : Cfg := cf [] 27 0 []

noncomputable def sg26a : Sig := ⟨[.obj (.agg (.pair (.agg (.pair (.slice (.int .u8)) (.pair (.int .i64) (.pair .nilp .unit)))) .unit)), .val (.int .i64)], [.own (.own (.agg (.pair (.int .i64) (.pair (.int .u64) (.pair (.int .u64) .unit)))))], [(.agg (.pair (.agg (.pair (.slice (.int .u8)) (.pair (.int .i64) (.pair (.ptr (.agg (.pair (.int .i64) (.pair (.int .i64) .unit)))) .unit)))) .unit))]⟩
noncomputable def sm26a : CSem := mkSem sg26a fun x => wire_Reader_Vecs_db0 x.1 x.2.1
noncomputable def cf26a : Cfg := cf [(59, sem59), (16, sem16)] 27 1 [(0, ⟨[(0, .loc (objName 0) []), (5, .own (.agg (.pair (.int .i64) (.pair (.int .u64) (.pair (.int .u64) .unit)))) false), (11, .dat (.int .i64)), (12, .dat (.int .i64))], [((objName 0), (.agg (.pair (.agg (.pair (.slice (.int .u8)) (.pair (.int .i64) (.pair (.ptr (.agg (.pair (.int .i64) (.pair (.int .i64) .unit)))) .unit)))) .unit)))]⟩)]

noncomputable def sg26b : Sig := ⟨[.obj (.agg (.pair (.agg (.pair (.slice (.int .u8)) (.pair (.int .i64) (.pair (.ptr (.agg (.pair (.int .i64) (.pair (.int .i64) .unit)))) .unit)))) .unit)), .val (.int .i64)], [.own (.own (.agg (.pair (.int .i64) (.pair (.int .u64) (.pair (.int .u64) .unit)))))], [(.agg (.pair (.agg (.pair (.slice (.int .u8)) (.pair (.int .i64) (.pair (.ptr (.agg (.pair (.int .i64) (.pair (.int .i64) .unit)))) .unit)))) .unit))]⟩
noncomputable def sm26b : CSem := mkSem sg26b fun x => wire_Reader_Vecs_e57 x.1 x.2.1
noncomputable def cf26b : Cfg := cf [(59, sem59), (16, sem16)] 27 1 [(0, ⟨[(0, .loc (objName 0) []), (5, .own (.agg (.pair (.int .i64) (.pair (.int .u64) (.pair (.int .u64) .unit)))) false), (11, .dat (.int .i64)), (12, .dat (.int .i64))], [((objName 0), (.agg (.pair (.agg (.pair (.slice (.int .u8)) (.pair (.int .i64) (.pair (.ptr (.agg (.pair (.int .i64) (.pair (.int .i64) .unit)))) .unit)))) .unit)))]⟩)]

noncomputable def sem26 : CSem := orSem sm26 (orSem sm26a (sm26b))

noncomputable def sg27 : Sig := ⟨[.val .nilp, .val (.int .i64), .val (.int .i64)], [.val (.nils (.int .i64))], []⟩
noncomputable def sm27 : CSem := mkSem sg27 fun x => wire_Reader_Numbers_639 x.1 x.2.1 x.2.2.1
noncomputable def cf27 : Cfg := cf [] 30 0 []

noncomputable def sg27a : Sig := ⟨[.obj (.agg (.pair (.agg (.pair (.slice (.int .u8)) (.pair (.int .i64) (.pair .nilp .unit)))) .unit)), .val (.int .i64), .val (.int .i64)], [.own (.own (.int .i64))], [(.agg (.pair (.agg (.pair (.slice (.int .u8)) (.pair (.int .i64) (.pair (.ptr (.agg (.pair (.int .i64) (.pair (.int .i64) .unit)))) .unit)))) .unit))]⟩
noncomputable def sm27a : CSem := mkSem sg27a fun x => wire_Reader_Numbers_395 x.1 x.2.1 x.2.2.1
noncomputable def cf27a : Cfg := cf [(59, sem59), (13, sem13)] 30 1 [(0, ⟨[(0, .loc (objName 0) []), (2, .dat (.int .i64)), (7, .own (.int .i64) false), (13, .dat (.int .i64)), (14, .dat (.int .i64))], [((objName 0), (.agg (.pair (.agg (.pair (.slice (.int .u8)) (.pair (.int .i64) (.pair (.ptr (.agg (.pair (.int .i64) (.pair (.int .i64) .unit)))) .unit)))) .unit)))]⟩)]

noncomputable def sg27b : Sig := ⟨[.obj (.agg (.pair (.agg (.pair (.slice (.int .u8)) (.pair (.int .i64) (.pair (.ptr (.agg (.pair (.int .i64) (.pair (.int .i64) .unit)))) .unit)))) .unit)), .val (.int .i64), .val (.int .i64)], [.own (.own (.int .i64))], [(.agg (.pair (.agg (.pair (.slice (.int .u8)) (.pair (.int .i64) (.pair (.ptr (.agg (.pair (.int .i64) (.pair (.int .i64) .unit)))) .unit)))) .unit))]⟩
noncomputable def sm27b : CSem := mkSem sg27b fun x => wire_Reader_Numbers_28a x.1 x.2.1 x.2.2.1
noncomputable def cf27b : Cfg := cf [(59, sem59), (13, sem13)] 30 1 [(0, ⟨[(0, .loc (objName 0) []), (2, .dat (.int .i64)), (7, .own (.int .i64) false), (13, .dat (.int .i64)), (14, .dat (.int .i64))], [((objName 0), (.agg (.pair (.agg (.pair (.slice (.int .u8)) (.pair (.int .i64) (.pair (.ptr (.agg (.pair (.int .i64) (.pair (.int .i64) .unit)))) .unit)))) .unit)))]⟩)]

noncomputable def sem27 : CSem := orSem sm27 (orSem sm27a (sm27b))

noncomputable def sg22 : Sig := ⟨[.val .nilp], [.val (.int .i64)], []⟩
noncomputable def sm22 : CSem := mkSem sg22 fun x => wire_Reader_At_d35 x.1
noncomputable def cf22 : Cfg := cf [] 10 0 []

noncomputable def sg22a : Sig := ⟨[.obj (.agg (.pair (.agg (.pair (.slice (.int .u8)) (.pair (.int .i64) (.pair (.ptr (.agg (.pair (.int .i64) (.pair (.int .i64) .unit)))) .unit)))) .unit))], [.val (.int .i64)], [(.agg (.pair (.agg (.pair (.slice (.int .u8)) (.pair (.int .i64) (.pair (.ptr (.agg (.pair (.int .i64) (.pair (.int .i64) .unit)))) .unit)))) .unit))]⟩
noncomputable def sm22a : CSem := mkSem sg22a fun x => wire_Reader_At_59d x.1
noncomputable def cf22a : Cfg := cf [] 10 1 []

noncomputable def sem22 : CSem := orSem sm22 (sm22a)

noncomputable def sg12 : Sig := ⟨[.val (.slice (.int .u8))], [.ptr (.agg (.pair (.agg (.pair (.slice (.int .u8)) (.pair (.int .i64) (.pair .nilp .unit)))) .unit))], []⟩
noncomputable def sm12 : CSem := mkSem sg12 fun x => wire_Read x.1
noncomputable def cf12 : Cfg := cf [(45, sem45)] 8 0 []

noncomputable def sem12 : CSem := sm12

noncomputable def sg85 : Sig := ⟨[.val (.int .i64)], [.val .bool], []⟩
noncomputable def sm85 : CSem := mkSem sg85 fun x => word_based x.1
noncomputable def cf85 : Cfg := cf [] 9 0 []

noncomputable def sem85 : CSem := sm85

noncomputable def sg94 : Sig := ⟨[.val (.int .u64)], [.val (.int .i64)], []⟩
noncomputable def sm94 : CSem := mkSem sg94 fun x => bits_LeadingZeros64 x.1
noncomputable def cf94 : Cfg := cf [(90, sem90)] 6 0 []

noncomputable def sem94 : CSem := sm94

noncomputable def sg91 : Sig := ⟨[.val (.int .u64), .val (.int .u64), .val (.int .u64)], [.val (.int .u64), .val (.int .u64)], []⟩
noncomputable def sm91 : CSem := mkSem sg91 fun x => bits_Div64 x.1 x.2.1 x.2.2.1
noncomputable def cf91 : Cfg := cf [(94, sem94)] 135 0 [(2, ⟨[(2, .dat (.int .u64)), (8, .dat (.int .u64)), (9, .dat (.int .u64)), (10, .dat (.int .u64)), (14, .dat (.int .u64)), (15, .dat (.int .u64)), (16, .dat (.int .u64)), (17, .dat (.int .u64)), (18, .dat (.int .u64))], []⟩), (0, ⟨[(2, .dat (.int .u64)), (8, .dat (.int .u64)), (9, .dat (.int .u64)), (10, .dat (.int .u64)), (11, .dat (.int .u64)), (13, .dat (.int .u64)), (14, .dat (.int .u64)), (15, .dat (.int .u64)), (16, .dat (.int .u64))], []⟩)]

noncomputable def sem91 : CSem := sm91

noncomputable def ag86 : List AK := [.val (.agg (.pair (.int .u64) (.pair (.int .u64) .unit))), .val (.int .u64)]
noncomputable def al86 : List Alt := [([.val (.agg (.pair (.int .u64) (.pair (.int .u64) .unit))), .val (.int .u64), .val .bool], [])]
noncomputable def sm86 : CSem := mkSemA ag86 al86 fun x => word_Div x.1 x.2.1
noncomputable def cf86 : Cfg := cf [(91, sem91)] 33 0 []

noncomputable def sem86 : CSem := sm86

noncomputable def sg76 : Sig := ⟨[.val (.agg (.pair (.int .u64) (.pair (.int .u64) .unit))), .val (.int .i64)], [.val .str], []⟩
noncomputable def sm76 : CSem := mkSem sg76 fun x => word_Text x.1 x.2.1
noncomputable def cf76 : Cfg := cf [(85, sem85), (86, sem86)] 66 0 [(2, ⟨[(5, .own (.int .u8) false), (37, .dat (.int .i64)), (38, .dat (.int .i64))], []⟩), (0, ⟨[(1, .dat (.int .i64)), (2, .loc (nameOf 2 0) []), (5, .own (.int .u8) false)], [((nameOf 2 0), (.agg (.pair (.int .u64) (.pair (.int .u64) .unit))))]⟩)]

noncomputable def sem76 : CSem := sm76

noncomputable def sg60 : Sig := ⟨[.val (.int .i64)], [.val .str], []⟩
noncomputable def sm60 : CSem := mkSem sg60 fun x => wire_digits x.1
noncomputable def cf60 : Cfg := cf [(76, sem76)] 9 0 []

noncomputable def sem60 : CSem := sm60

noncomputable def sg28 : Sig := ⟨[.val .nilp], [.val .str], []⟩
noncomputable def sm28 : CSem := mkSem sg28 fun x => wire_Fault_Error_d35 x.1
noncomputable def cf28 : Cfg := cf [] 18 0 []

noncomputable def sg28a : Sig := ⟨[.val (.ptr (.agg (.pair (.int .i64) (.pair (.int .i64) .unit))))], [.val .str], []⟩
noncomputable def sm28a : CSem := mkSem sg28a fun x => wire_Fault_Error_bca x.1
noncomputable def cf28a : Cfg := cf [(60, sem60)] 18 0 []

noncomputable def sem28 : CSem := orSem sm28 (sm28a)

noncomputable def ag78 : List AK := [.val (.int .i64)]
noncomputable def al78 : List Alt := [([.val (.agg (.arr 128 .bool))], [])]
noncomputable def sm78 : CSem := mkSemA ag78 al78 fun x => ref01_small x.1
noncomputable def cf78 : Cfg := cf [(42, sem42)] 6 0 []

noncomputable def sem78 : CSem := sm78

noncomputable def ag87 : List AK := [.val (.agg (.arr 128 .bool)), .val (.int .i64)]
noncomputable def al87 : List Alt := [([.val (.agg (.arr 128 .bool))], [])]
noncomputable def sm87 : CSem := mkSemA ag87 al87 fun x => ref01_Moved x.1 x.2.1
noncomputable def cf87 : Cfg := cf [] 37 0 [(0, ⟨[(1, .dat (.int .i64)), (2, .loc (nameOf 2 0) []), (4, .loc (nameOf 4 0) []), (5, .loc (nameOf 5 0) []), (6, .dat (.int .i64))], [((nameOf 2 0), (.agg (.arr 128 .bool))), ((nameOf 4 0), (.agg (.arr 128 .bool))), ((nameOf 5 0), (.agg (.arr 128 .bool)))]⟩)]

noncomputable def sem87 : CSem := sm87

noncomputable def sg88 : Sig := ⟨[.val (.agg (.arr 128 .bool)), .val (.agg (.arr 128 .bool))], [.val .bool], []⟩
noncomputable def sm88 : CSem := mkSem sg88 fun x => ref01_Less x.1 x.2.1
noncomputable def cf88 : Cfg := cf [] 20 0 [(0, ⟨[(2, .loc (nameOf 2 0) []), (3, .loc (nameOf 3 0) []), (5, .dat (.int .i64))], [((nameOf 2 0), (.agg (.arr 128 .bool))), ((nameOf 3 0), (.agg (.arr 128 .bool)))]⟩)]

noncomputable def sem88 : CSem := sm88

noncomputable def ag93 : List AK := [.val (.agg (.arr 128 .bool))]
noncomputable def al93 : List Alt := [([.val (.agg (.arr 128 .bool))], [])]
noncomputable def sm93 : CSem := mkSemA ag93 al93 fun x => ref01_Turned x.1
noncomputable def cf93 : Cfg := cf [] 16 0 [(0, ⟨[(1, .loc (nameOf 1 0) []), (2, .loc (nameOf 2 0) []), (3, .loc (nameOf 3 0) []), (4, .dat (.int .i64))], [((nameOf 1 0), (.agg (.arr 128 .bool))), ((nameOf 2 0), (.agg (.arr 128 .bool))), ((nameOf 3 0), (.agg (.arr 128 .bool)))]⟩)]

noncomputable def sem93 : CSem := sm93

noncomputable def ag92 : List AK := [.val (.agg (.arr 128 .bool)), .val (.agg (.arr 128 .bool)), .val .bool]
noncomputable def al92 : List Alt := [([.val (.agg (.arr 128 .bool)), .val .bool], [])]
noncomputable def sm92 : CSem := mkSemA ag92 al92 fun x => ref01_Sum x.1 x.2.1 x.2.2.1
noncomputable def cf92 : Cfg := cf [] 37 0 [(0, ⟨[(2, .dat .bool), (3, .loc (nameOf 3 0) []), (4, .loc (nameOf 4 0) []), (6, .loc (nameOf 6 0) []), (8, .loc (nameOf 8 0) []), (9, .dat (.int .i64))], [((nameOf 3 0), (.agg (.arr 128 .bool))), ((nameOf 4 0), (.agg (.arr 128 .bool))), ((nameOf 6 0), (.agg (.arr 128 .bool))), ((nameOf 8 0), (.agg (.arr 128 .bool)))]⟩)]

noncomputable def sem92 : CSem := sm92

noncomputable def ag89 : List AK := [.val (.agg (.arr 128 .bool)), .val (.agg (.arr 128 .bool))]
noncomputable def al89 : List Alt := [([.val (.agg (.arr 128 .bool)), .val .bool], [])]
noncomputable def sm89 : CSem := mkSemA ag89 al89 fun x => ref01_Minus x.1 x.2.1
noncomputable def cf89 : Cfg := cf [(93, sem93), (92, sem92), (88, sem88)] 19 0 []

noncomputable def sem89 : CSem := sm89

noncomputable def ag77 : List AK := [.val (.agg (.arr 128 .bool)), .val (.agg (.arr 128 .bool))]
noncomputable def al77 : List Alt := [([.val (.agg (.arr 128 .bool)), .val (.agg (.arr 128 .bool))], [])]
noncomputable def sm77 : CSem := mkSemA ag77 al77 fun x => ref01_Part x.1 x.2.1
noncomputable def cf77 : Cfg := cf [(87, sem87), (88, sem88), (89, sem89)] 39 0 [(0, ⟨[(2, .loc (nameOf 2 0) []), (3, .loc (nameOf 3 0) []), (4, .loc (nameOf 4 0) []), (5, .loc (nameOf 5 0) []), (6, .loc (nameOf 6 0) []), (7, .loc (nameOf 7 0) []), (8, .dat (.int .i64))], [((nameOf 2 0), (.agg (.arr 128 .bool))), ((nameOf 3 0), (.agg (.arr 128 .bool))), ((nameOf 4 0), (.agg (.arr 128 .bool))), ((nameOf 5 0), (.agg (.arr 128 .bool))), ((nameOf 6 0), (.agg (.arr 128 .bool))), ((nameOf 7 0), (.agg (.arr 128 .bool)))]⟩)]

noncomputable def sem77 : CSem := sm77

noncomputable def sg79 : Sig := ⟨[.val (.agg (.arr 128 .bool))], [.val (.int .u64), .val (.int .u64)], []⟩
noncomputable def sm79 : CSem := mkSem sg79 fun x => ref01_Halves x.1
noncomputable def cf79 : Cfg := cf [] 28 0 [(0, ⟨[(1, .loc (nameOf 1 0) []), (4, .dat (.int .u64)), (5, .dat (.int .u64)), (6, .dat (.int .i64))], [((nameOf 1 0), (.agg (.arr 128 .bool)))]⟩)]

noncomputable def sem79 : CSem := sm79

noncomputable def sg61 : Sig := ⟨[.val (.agg (.arr 128 .bool)), .val (.int .i64)], [.val .str], []⟩
noncomputable def sm61 : CSem := mkSem sg61 fun x => ref01_Text x.1 x.2.1
noncomputable def cf61 : Cfg := cf [(41, sem41), (78, sem78), (77, sem77), (79, sem79)] 37 0 [(0, ⟨[(1, .dat (.int .i64)), (2, .loc (nameOf 2 0) []), (5, .dat .str)], [((nameOf 2 0), (.agg (.arr 128 .bool)))]⟩)]

noncomputable def sem61 : CSem := sm61

/-! ### shunter/shunterlaw07.digits -/
noncomputable def law07_digits (n_0 : Int) : Option (((List Int) × Unit) × (Unit)) :=
  bif (decide (n_0 < 0)) then
    some (([], ()), ())
  else
  (ref01_Of 0 (IntKind.u64.wrap n_0)).bind fun r_3 =>
  (ref01_Text r_3.1.1 10).bind fun r_4 =>
  some ((r_4.1.1, ()), ())

noncomputable def sg29 : Sig := ⟨[.val (.int .i64)], [.val .str], []⟩
noncomputable def sm29 : CSem := mkSem sg29 fun x => law07_digits x.1
noncomputable def cf29 : Cfg := cf [(42, sem42), (61, sem61)] 9 0 []

noncomputable def sem29 : CSem := sm29

noncomputable def sg30 : Sig := ⟨[.val (.alt 60 (.ptr (.agg (.pair (.int .i64) (.pair (.int .i64) .unit)))) .nili)], [.val (.ptr (.agg (.pair (.int .i64) (.pair (.int .i64) .unit))))], []⟩
noncomputable def sm30 : CSem := mkSem sg30 fun x => wire_Only_8d8 x.1
noncomputable def cf30 : Cfg := cf [] 5 0 []

noncomputable def sem30 : CSem := sm30

/-! ### shunter/shunterlaw07.WireFaults -/
noncomputable def law07_WireFaults (b_0 : List Int) (n_1 : Int) : Option ((Bool × Unit) × (Unit)) :=
  bif (decide ((b_0.length : Int) > 500)) then
    law07_lives.bind fun r_3 =>
    some ((r_3.1.1, ()), ())
  else
  (wire_Reader_Fail_d6c () 4).bind fun r_4 =>
  (wire_Reader_Bad_d35 ()).bind fun r_5 =>
  bif !r_5.1.1 then
    some ((false, ()), ())
  else
  (wire_Reader_End_d35 ()).bind fun r_6 =>
  (wire_Why_8d8 r_6.1.1).bind fun r_7 =>
  (wire_Reader_Byte_d6c () 9).bind fun r_8 =>
  let t32_9 : Bool := !decide (r_8.1.1 = 0)
  guardR (!t32_9) (some ()) () fun _ =>
  guardR (!t32_9) (wire_Reader_Two_d6c () 9) ((0, ()), ()) fun r_10 =>
  guardR (!t32_9) (some (!decide (r_10.1.1 = 0))) false fun v_11 =>
  let t37_12 : Bool := bif t32_9 then true else v_11
  guardR (!t37_12) (some ()) () fun _ =>
  guardR (!t37_12) (wire_Reader_Four_d6c () 9) ((0, ()), ()) fun r_13 =>
  guardR (!t37_12) (some (!decide (r_13.1.1 = 0))) false fun v_14 =>
  let t42_15 : Bool := bif t37_12 then true else v_14
  guardR (!t42_15) (some ()) () fun _ =>
  guardR (!t42_15) (wire_Reader_Vec_d35 ()) (((0, 0, 0, ()), ()), ()) fun r_16 =>
  guardR (!t42_15) (some ()) () fun _ =>
  guardR (!t42_15) (some ()) () fun _ =>
  let t48_18 : Bool := bif t42_15 then true else (!(decide (r_16.1.1.1 = 0) && (decide (r_16.1.1.2.1 = 0) && decide (r_16.1.1.2.2.1 = 0))))
  guardR (!t48_18) (some ()) () fun _ =>
  guardR (!t48_18) (wire_Reader_Name_d35 ()) (([], ()), ()) fun r_19 =>
  guardR (!t48_18) (some (!decide (r_19.1.1 = []))) false fun v_20 =>
  let t53_21 : Bool := bif t48_18 then true else v_20
  guardR (!t53_21) (some ()) () fun _ =>
  guardR (!t53_21) (wire_Reader_Vecs_d6c () 9) (((), ()), ()) fun r_22 =>
  guardR (!t53_21) (some (0 : Int)) 0 fun v_23 =>
  guardR (!t53_21) (some ()) () fun _ =>
  guardR (!t53_21) (wire_Reader_Numbers_639 () 9 9) (((), ()), ()) fun r_24 =>
  guardR (!t53_21) (some (0 : Int)) 0 fun v_25 =>
  guardR (!t53_21) (some (IntKind.i64.wrap (v_23 + v_25))) 0 fun v_26 =>
  guardR (!t53_21) (some ()) () fun _ =>
  guardR (!t53_21) (wire_Reader_At_d35 ()) ((0, ()), ()) fun r_27 =>
  guardR (!t53_21) (some (IntKind.i64.wrap (v_26 + r_27.1.1))) 0 fun v_28 =>
  guardR (!t53_21) (some ()) () fun _ =>
  guardR (!t53_21) (wire_Reader_Left_d35 ()) ((0, ()), ()) fun r_29 =>
  guardR (!t53_21) (some (IntKind.i64.wrap (v_28 + r_29.1.1))) 0 fun v_30 =>
  guardR (!t53_21) (some (!decide (v_30 = 0))) false fun v_31 =>
  let t69_32 : Bool := bif t53_21 then true else v_31
  guardR (!t69_32) (some ()) () fun _ =>
  guardR (!t69_32) (some (!decide (r_7.1.1 = 1))) false fun v_33 =>
  let t73_34 : Bool := bif t69_32 then true else v_33
  guardR (!t73_34) (some ()) () fun _ =>
  guardR (!t73_34) (some (!decide (r_7.1.2.1 = 0))) false fun v_35 =>
  bif (bif t73_34 then true else v_35) then
    some ((false, ()), ())
  else
  (wire_Read b_0).bind fun r_37 =>
  (wire_Reader_Byte_db0 r_37.1.1 255).bind fun r_38 =>
  (wire_Reader_At_59d r_38.2.1).bind fun r_39 =>
  (wire_Reader_Fail_e57 r_39.2.1 5).bind fun r_40 =>
  (wire_Reader_End_59d r_40.2.1).bind fun r_41 =>
  let t93_42 : Option (Int × Int × Unit) := (getAlt0 r_41.1.1).getD none
  let t94_43 : Bool := (getAlt0 r_41.1.1).isSome
  guardR (!(!t94_43)) (some ()) () fun _ =>
  guardR (!(!t94_43)) (some (t93_42.isNone)) false fun v_44 =>
  bif (bif !t94_43 then true else v_44) then
    some ((false, ()), ())
  else
  (wire_Fault_Error_d35 ()).bind fun r_46 =>
  let t103_47 : Bool := !decide (r_46.1.1 = [])
  guardR (!t103_47) (some ()) () fun _ =>
  guardR (!t103_47) (wire_Fault_Error_bca t93_42) (([], ()), ()) fun r_48 =>
  guardR (!t103_47) (some ()) () fun _ =>
  guardR (!t103_47) t93_42 (0, 0, ()) fun v_49 =>
  guardR (!t103_47) (some v_49.1) 0 fun v_50 =>
  guardR (!t103_47) (some ()) () fun _ =>
  guardR (!t103_47) (law07_digits v_50) (([], ()), ()) fun r_51 =>
  guardR (!t103_47) (catI [102, 97, 117, 108, 116, 32] r_51.1.1) [] fun v_52 =>
  guardR (!t103_47) (catI v_52 [32, 97, 116, 32, 98, 121, 116, 101, 32]) [] fun v_53 =>
  guardR (!t103_47) (some ()) () fun _ =>
  guardR (!t103_47) t93_42 (0, 0, ()) fun v_54 =>
  guardR (!t103_47) (some v_54.2.1) 0 fun v_55 =>
  guardR (!t103_47) (some ()) () fun _ =>
  guardR (!t103_47) (law07_digits v_55) (([], ()), ()) fun r_56 =>
  guardR (!t103_47) (catI v_53 r_56.1.1) [] fun v_57 =>
  guardR (!t103_47) (some (!decide (r_48.1.1 = v_57))) false fun v_58 =>
  bif (bif t103_47 then true else v_58) then
    some ((false, ()), ())
  else
  (wire_Only_8d8 r_41.1.1).bind fun r_60 =>
  bif (decide ((b_0.length : Int) = 0)) then
    t93_42.bind fun v_63 =>
    let t131_64 : Bool := decide (v_63.1 = 3)
    guardR t131_64 (some ()) () fun _ =>
    guardR t131_64 t93_42 (0, 0, ()) fun v_65 =>
    guardR t131_64 (some v_65.2.1) 0 fun v_66 =>
    guardR t131_64 (some ()) () fun _ =>
    guardR t131_64 (some (decide (v_66 = 0))) false fun v_67 =>
    let t138_68 : Bool := bif t131_64 then v_67 else false
    guardR t138_68 (some ()) () fun _ =>
    guardR t138_68 r_60.1.1 (0, 0, ()) fun v_69 =>
    guardR t138_68 (some v_69.1) 0 fun v_70 =>
    guardR t138_68 (some ()) () fun _ =>
    guardR t138_68 (some ()) () fun _ =>
    guardR t138_68 t93_42 (0, 0, ()) fun v_71 =>
    guardR t138_68 (some v_71.1) 0 fun v_72 =>
    guardR t138_68 (some ()) () fun _ =>
    guardR t138_68 (some (decide (v_70 = v_72))) false fun v_73 =>
    let t149_74 : Bool := bif t138_68 then v_73 else false
    guardR t149_74 law07_lives ((false, ()), ()) fun r_75 =>
    some (((bif t149_74 then r_75.1.1 else false), ()), ())
  else
  t93_42.bind fun v_77 =>
  let t157_78 : Bool := decide (v_77.1 = 5)
  guardR t157_78 (some ()) () fun _ =>
  guardR t157_78 t93_42 (0, 0, ()) fun v_79 =>
  guardR t157_78 (some v_79.2.1) 0 fun v_80 =>
  guardR t157_78 (some ()) () fun _ =>
  guardR t157_78 (some ()) () fun _ =>
  guardR t157_78 (some (decide (v_80 = r_39.1.1))) false fun v_81 =>
  let t165_82 : Bool := bif t157_78 then v_81 else false
  guardR t165_82 (some ()) () fun _ =>
  guardR t165_82 r_60.1.1 (0, 0, ()) fun v_83 =>
  guardR t165_82 (some v_83.1) 0 fun v_84 =>
  guardR t165_82 (some ()) () fun _ =>
  guardR t165_82 (some ()) () fun _ =>
  guardR t165_82 t93_42 (0, 0, ()) fun v_85 =>
  guardR t165_82 (some v_85.1) 0 fun v_86 =>
  guardR t165_82 (some ()) () fun _ =>
  guardR t165_82 (some (decide (v_84 = v_86))) false fun v_87 =>
  let t176_88 : Bool := bif t165_82 then v_87 else false
  guardR t176_88 (some ()) () fun _ =>
  guardR t176_88 r_60.1.1 (0, 0, ()) fun v_89 =>
  guardR t176_88 (some v_89.2.1) 0 fun v_90 =>
  guardR t176_88 (some ()) () fun _ =>
  guardR t176_88 (some ()) () fun _ =>
  guardR t176_88 t93_42 (0, 0, ()) fun v_91 =>
  guardR t176_88 (some v_91.2.1) 0 fun v_92 =>
  guardR t176_88 (some ()) () fun _ =>
  guardR t176_88 (some (decide (v_90 = v_92))) false fun v_93 =>
  let t187_94 : Bool := bif t176_88 then v_93 else false
  guardR t187_94 (some ()) () fun _ =>
  guardR t187_94 (some ()) () fun _ =>
  guardR t187_94 (wire_Reader_Byte_e57 r_41.2.1 n_1) ((0, ()), (([], 0, none, ()), ()), ()) fun r_95 =>
  guardR t187_94 (some (decide (r_95.1.1 = 0))) false fun v_96 =>
  let t193_97 : Bool := bif t187_94 then v_96 else false
  guardR t193_97 (some ()) () fun _ =>
  guardR t193_97 (wire_Reader_At_59d (bif t187_94 then r_95.2.1 else r_41.2.1)) ((0, ()), (([], 0, none, ()), ()), ()) fun r_98 =>
  guardR t193_97 (some ()) () fun _ =>
  guardR t193_97 (some (decide (r_98.1.1 = r_39.1.1))) false fun v_99 =>
  let t199_100 : Bool := bif t193_97 then v_99 else false
  guardR t199_100 law07_lives ((false, ()), ()) fun r_101 =>
  some (((bif t199_100 then r_101.1.1 else false), ()), ())

noncomputable def sg6 : Sig := ⟨[.val (.slice (.int .u8)), .val (.int .i64)], [.val .bool], []⟩
noncomputable def sm6 : CSem := mkSem sg6 fun x => law07_WireFaults x.1 x.2.1
noncomputable def cf6 : Cfg := cf [(8, sem8), (25, sem25), (23, sem23), (19, sem19), (18, sem18), (13, sem13), (14, sem14), (15, sem15), (16, sem16), (17, sem17), (26, sem26), (27, sem27), (22, sem22), (20, sem20), (12, sem12), (28, sem28), (29, sem29), (30, sem30)] 203 0 []

noncomputable def sem6 : CSem := sm6

noncomputable def ag73 : List AK := [.val (.agg (.pair (.slice (.int .u8)) (.pair (.int .i64) (.pair (.int .i64) (.pair (.int .i64) .unit))))), .val (.int .i64), .val (.int .i64)]
noncomputable def al73 : List Alt := [([.val (.agg (.pair (.slice (.int .u8)) (.pair (.int .i64) (.pair (.int .i64) (.pair (.int .i64) .unit)))))], [])]
noncomputable def sm73 : CSem := mkSemA ag73 al73 fun x => ref07_fail x.1 x.2.1 x.2.2.1
noncomputable def cf73 : Cfg := cf [] 19 0 []

noncomputable def sem73 : CSem := sm73

noncomputable def sg75 : Sig := ⟨[.val (.slice (.int .u8))], [.own (.own .bool)], []⟩
noncomputable def sm75 : CSem := mkSem sg75 fun x => ref03_Bits x.1
noncomputable def cf75 : Cfg := cf [] 35 0 [(2, ⟨[(0, .dat (.slice (.int .u8))), (3, .own .bool false), (4, .dat (.int .i64)), (5, .dat (.int .i64)), (6, .dat (.int .i64))], []⟩), (0, ⟨[(0, .dat (.slice (.int .u8))), (3, .own .bool false), (4, .dat (.int .i64))], []⟩)]

noncomputable def sem75 : CSem := sm75

noncomputable def ag84 : List AK := [.val (.slice .bool)]
noncomputable def al84 : List Alt := [([.val (.agg (.pair (.int .i64) (.pair (.int .u64) (.pair (.int .u64) .unit))))], [])]
noncomputable def sm84 : CSem := mkSemA ag84 al84 fun x => ref02_Of x.1
noncomputable def cf84 : Cfg := cf [(79, sem79)] 33 0 [(0, ⟨[(0, .dat (.slice .bool)), (2, .loc (nameOf 2 0) []), (3, .loc (nameOf 3 0) []), (4, .dat (.int .i64))], [((nameOf 2 0), (.agg (.pair (.int .i64) (.pair (.int .u64) (.pair (.int .u64) .unit))))), ((nameOf 3 0), (.agg (.arr 128 .bool)))]⟩)]

noncomputable def sem84 : CSem := sm84

noncomputable def ag74 : List AK := [.val (.slice .bool)]
noncomputable def al74 : List Alt := [([.val (.agg (.pair (.int .i64) (.pair (.int .u64) (.pair (.int .u64) .unit))))], [])]
noncomputable def sm74 : CSem := mkSemA ag74 al74 fun x => ref03_Vec x.1
noncomputable def cf74 : Cfg := cf [(84, sem84)] 21 0 [(0, ⟨[(0, .dat (.slice .bool)), (2, .loc (nameOf 2 0) []), (3, .own .bool false), (4, .dat (.int .i64))], [((nameOf 2 0), (.agg (.pair (.int .i64) (.pair (.int .u64) (.pair (.int .u64) .unit)))))]⟩)]

noncomputable def sem74 : CSem := sm74

noncomputable def ag54 : List AK := [.val (.agg (.pair (.slice (.int .u8)) (.pair (.int .i64) (.pair (.int .i64) (.pair (.int .i64) .unit))))), .val (.int .i64), .val (.int .i64)]
noncomputable def al54 : List Alt := [([.val (.agg (.pair (.slice (.int .u8)) (.pair (.int .i64) (.pair (.int .i64) (.pair (.int .i64) .unit))))), .val (.int .i64)], [])]
noncomputable def sm54 : CSem := mkSemA ag54 al54 fun x => ref07_Take x.1 x.2.1 x.2.2.1
noncomputable def cf54 : Cfg := cf [(73, sem73), (75, sem75), (74, sem74)] 51 0 []

noncomputable def sem54 : CSem := sm54

noncomputable def ag55 : List AK := [.val (.agg (.pair (.slice (.int .u8)) (.pair (.int .i64) (.pair (.int .i64) (.pair (.int .i64) .unit)))))]
noncomputable def al55 : List Alt := [([.val (.agg (.pair (.slice (.int .u8)) (.pair (.int .i64) (.pair (.int .i64) (.pair (.int .i64) .unit))))), .val (.agg (.pair (.int .i64) (.pair (.int .u64) (.pair (.int .u64) .unit))))], [])]
noncomputable def sm55 : CSem := mkSemA ag55 al55 fun x => ref07_TakeVec x.1
noncomputable def cf55 : Cfg := cf [(54, sem54), (73, sem73), (75, sem75), (74, sem74)] 88 0 [(0, ⟨[(1, .loc (nameOf 1 0) []), (2, .loc (nameOf 2 0) []), (3, .loc (nameOf 3 0) []), (4, .loc (nameOf 4 0) []), (5, .dat (.int .i64)), (6, .dat (.int .i64)), (7, .own .bool false), (8, .dat (.int .i64))], [((nameOf 1 0), (.agg (.pair (.slice (.int .u8)) (.pair (.int .i64) (.pair (.int .i64) (.pair (.int .i64) .unit)))))), ((nameOf 2 0), (.agg (.pair (.nils (.int .u8)) (.pair (.int .i64) (.pair (.int .i64) (.pair (.int .i64) .unit)))))), ((nameOf 3 0), (.agg (.pair (.int .i64) (.pair (.int .u64) (.pair (.int .u64) .unit))))), ((nameOf 4 0), (.agg (.pair (.slice (.int .u8)) (.pair (.int .i64) (.pair (.int .i64) (.pair (.int .i64) .unit))))))]⟩)]

noncomputable def sem55 : CSem := sm55

noncomputable def sg82 : Sig := ⟨[.val (.int .u8)], [.val .bool], []⟩
noncomputable def sm82 : CSem := mkSem sg82 fun x => ref05_more x.1
noncomputable def cf82 : Cfg := cf [] 9 0 []

noncomputable def sem82 : CSem := sm82

noncomputable def sg69 : Sig := ⟨[.val .str], [.val (.int .i64), .val (.int .i64)], []⟩
noncomputable def sm69 : CSem := mkSem sg69 fun x => ref05_First x.1
noncomputable def cf69 : Cfg := cf [(82, sem82)] 139 0 []

noncomputable def sem69 : CSem := sm69

noncomputable def sg43 : Sig := ⟨[.val .str], [.own (.own (.int .i64))], []⟩
noncomputable def sm43 : CSem := mkSem sg43 fun x => ref05_Runes x.1
noncomputable def cf43 : Cfg := cf [(69, sem69)] 22 0 [(0, ⟨[(0, .dat .str), (3, .own (.int .i64) false)], []⟩)]

noncomputable def sem43 : CSem := sm43

noncomputable def sg44 : Sig := ⟨[.val (.int .i64)], [.val .bool], []⟩
noncomputable def sm44 : CSem := mkSem sg44 fun x => ref05_Letter x.1
noncomputable def cf44 : Cfg := cf [] 53 0 []

noncomputable def sem44 : CSem := sm44

noncomputable def sg11 : Sig := ⟨[.val .str], [.val .bool], []⟩
noncomputable def sm11 : CSem := mkSem sg11 fun x => ref05_May x.1
noncomputable def cf11 : Cfg := cf [(43, sem43), (44, sem44)] 63 0 [(0, ⟨[(3, .own (.int .i64) false), (4, .dat (.int .i64))], []⟩)]

noncomputable def sem11 : CSem := sm11

noncomputable def ag56 : List AK := [.val (.agg (.pair (.slice (.int .u8)) (.pair (.int .i64) (.pair (.int .i64) (.pair (.int .i64) .unit)))))]
noncomputable def al56 : List Alt := [([.val (.agg (.pair (.slice (.int .u8)) (.pair (.int .i64) (.pair (.int .i64) (.pair (.int .i64) .unit))))), .val .str], [])]
noncomputable def sm56 : CSem := mkSemA ag56 al56 fun x => ref07_TakeName x.1
noncomputable def cf56 : Cfg := cf [(54, sem54), (73, sem73), (11, sem11)] 53 0 []

noncomputable def sem56 : CSem := sm56

noncomputable def ag57 : List AK := [.val (.agg (.pair (.slice (.int .u8)) (.pair (.int .i64) (.pair (.int .i64) (.pair (.int .i64) .unit))))), .val (.int .i64)]
noncomputable def al57 : List Alt := [([.val (.agg (.pair (.slice (.int .u8)) (.pair (.int .i64) (.pair (.int .i64) (.pair (.int .i64) .unit))))), .val (.int .i64)], [])]
noncomputable def sm57 : CSem := mkSemA ag57 al57 fun x => ref07_Count x.1 x.2.1
noncomputable def cf57 : Cfg := cf [(54, sem54), (73, sem73)] 31 0 []

noncomputable def sem57 : CSem := sm57

/-! ### shunter/shunterlaw07.reads -/
noncomputable def law07_reads_1d4_s3 (l_16_3 : List (Int × Int × Int × Unit)) (want_19_3 : List (Int × Int × Int × Unit)) (same_22_3 : Bool) (i_23_3 : Int) (p17_0_3 : (List Int) × Int × Int × Int × Unit) (p6_0_3 : Unit × Int × Int × Int × Unit) (o0_3 : ((List Int) × Int × (Option (Int × Int × Unit)) × Unit) × Unit) : Option ((((List (Int × Int × Int × Unit)) × (List (Int × Int × Int × Unit)) × Bool × Int × Unit) × (((List Int) × Int × Int × Int × Unit) × (Unit × Int × Int × Int × Unit) × (((List Int) × Int × (Option (Int × Int × Unit)) × Unit) × Unit) × Unit)) ⊕ ((((List Int) × Int × Int × Int × Unit) × Bool × Unit) × ((((List Int) × Int × (Option (Int × Int × Unit)) × Unit) × Unit) × Unit))) :=
  let t140_41 : Bool := decide (i_23_3 < (want_19_3.length : Int))
  guardR t140_41 (some ()) () fun _ =>
  bif (bif t140_41 then same_22_3 else false) then
    (Option.map (fun _ => i_23_3) (ckI i_23_3 l_16_3.length)).bind fun v_43 =>
    (rdI l_16_3 v_43).bind fun v_44 =>
    (Option.map (fun _ => i_23_3) (ckI i_23_3 want_19_3.length)).bind fun v_45 =>
    (rdI want_19_3 v_45).bind fun v_46 =>
    some (.inl ((l_16_3, want_19_3, (decide (v_44.1 = v_46.1) && (decide (v_44.2.1 = v_46.2.1) && decide (v_44.2.2.1 = v_46.2.2.1))), (IntKind.i64.wrap (i_23_3 + 1)), ()), (p17_0_3.1, p17_0_3.2.1, p17_0_3.2.2.1, p17_0_3.2.2.2.1, ()), (p6_0_3.1, p6_0_3.2.1, p6_0_3.2.2.1, p6_0_3.2.2.2.1, ()), ((o0_3.1.1, o0_3.1.2.1, o0_3.1.2.2.1, ()), ()), ()))
  else
  some (.inr (((p17_0_3.1, p17_0_3.2.1, p17_0_3.2.2.1, p17_0_3.2.2.2.1, ()), same_22_3, ()), ((o0_3.1.1, o0_3.1.2.1, o0_3.1.2.2.1, ()), ()), ()))
noncomputable def law07_reads_1d4_s1 (l_16_1 : List (Int × Int × Int × Unit)) (n_18_1 : Int) (want_19_1 : List (Int × Int × Int × Unit)) (i_20_1 : Int) (p17_0_1 : (List Int) × Int × Int × Int × Unit) (p6_0_1 : Unit × Int × Int × Int × Unit) (o0_1 : ((List Int) × Int × (Option (Int × Int × Unit)) × Unit) × Unit) : Option ((((List (Int × Int × Int × Unit)) × Int × (List (Int × Int × Int × Unit)) × Int × Unit) × (((List Int) × Int × Int × Int × Unit) × (Unit × Int × Int × Int × Unit) × (((List Int) × Int × (Option (Int × Int × Unit)) × Unit) × Unit) × Unit)) ⊕ ((((List Int) × Int × Int × Int × Unit) × Bool × Unit) × ((((List Int) × Int × (Option (Int × Int × Unit)) × Unit) × Unit) × Unit))) :=
  bif (decide (i_20_1 < n_18_1)) then
    (ref07_TakeVec (p17_0_1.1, p17_0_1.2.1, p17_0_1.2.2.1, p17_0_1.2.2.2.1, ())).bind fun r_31 =>
    (roomI 24 want_19_1 [r_31.1.2.1]).bind fun v_32 =>
    some (.inl ((l_16_1, n_18_1, v_32, (IntKind.i64.wrap (i_20_1 + 1)), ()), r_31.1.1, (p6_0_1.1, p6_0_1.2.1, p6_0_1.2.2.1, p6_0_1.2.2.2.1, ()), ((o0_1.1.1, o0_1.1.2.1, o0_1.1.2.2.1, ()), ()), ()))
  else
  (bif (!decide (p17_0_1.2.2.1 = 0)) then
    some (((p17_0_1.1, p17_0_1.2.1, p17_0_1.2.2.1, p17_0_1.2.2.2.1, ()), (decide ((l_16_1.length : Int) = 0)), ()), ((o0_1.1.1, o0_1.1.2.1, o0_1.1.2.2.1, ()), ()), ())
  else
  loopR (fun (z : ((List (Int × Int × Int × Unit)) × (List (Int × Int × Int × Unit)) × Bool × Int × Unit) × (((List Int) × Int × Int × Int × Unit) × (Unit × Int × Int × Int × Unit) × (((List Int) × Int × (Option (Int × Int × Unit)) × Unit) × Unit) × Unit)) => law07_reads_1d4_s3 z.1.1 z.1.2.1 z.1.2.2.1 z.1.2.2.2.1 z.2.1 z.2.2.1 z.2.2.2.1) ((l_16_1, want_19_1, (decide ((l_16_1.length : Int) = (want_19_1.length : Int))), 0, ()), (p17_0_1.1, p17_0_1.2.1, p17_0_1.2.2.1, p17_0_1.2.2.2.1, ()), (p6_0_1.1, p6_0_1.2.1, p6_0_1.2.2.1, p6_0_1.2.2.2.1, ()), ((o0_1.1.1, o0_1.1.2.1, o0_1.1.2.2.1, ()), ()), ())).map .inr
noncomputable def law07_reads_1d4_s7 (l_24_7 : List Int) (want_27_7 : List Int) (same_30_7 : Bool) (i_31_7 : Int) (p25_0_7 : (List Int) × Int × Int × Int × Unit) (p6_0_7 : Unit × Int × Int × Int × Unit) (o0_7 : ((List Int) × Int × (Option (Int × Int × Unit)) × Unit) × Unit) : Option ((((List Int) × (List Int) × Bool × Int × Unit) × (((List Int) × Int × Int × Int × Unit) × (Unit × Int × Int × Int × Unit) × (((List Int) × Int × (Option (Int × Int × Unit)) × Unit) × Unit) × Unit)) ⊕ ((((List Int) × Int × Int × Int × Unit) × Bool × Unit) × ((((List Int) × Int × (Option (Int × Int × Unit)) × Unit) × Unit) × Unit))) :=
  let t203_63 : Bool := decide (i_31_7 < (want_27_7.length : Int))
  guardR t203_63 (some ()) () fun _ =>
  bif (bif t203_63 then same_30_7 else false) then
    (Option.map (fun _ => i_31_7) (ckI i_31_7 l_24_7.length)).bind fun v_65 =>
    (rdI l_24_7 v_65).bind fun v_66 =>
    (Option.map (fun _ => i_31_7) (ckI i_31_7 want_27_7.length)).bind fun v_67 =>
    (rdI want_27_7 v_67).bind fun v_68 =>
    some (.inl ((l_24_7, want_27_7, (decide (v_66 = v_68)), (IntKind.i64.wrap (i_31_7 + 1)), ()), (p25_0_7.1, p25_0_7.2.1, p25_0_7.2.2.1, p25_0_7.2.2.2.1, ()), (p6_0_7.1, p6_0_7.2.1, p6_0_7.2.2.1, p6_0_7.2.2.2.1, ()), ((o0_7.1.1, o0_7.1.2.1, o0_7.1.2.2.1, ()), ()), ()))
  else
  some (.inr (((p25_0_7.1, p25_0_7.2.1, p25_0_7.2.2.1, p25_0_7.2.2.2.1, ()), same_30_7, ()), ((o0_7.1.1, o0_7.1.2.1, o0_7.1.2.2.1, ()), ()), ()))
noncomputable def law07_reads_1d4_s5 (l_24_5 : List Int) (n_26_5 : Int) (want_27_5 : List Int) (i_28_5 : Int) (p25_0_5 : (List Int) × Int × Int × Int × Unit) (p5_0_5 : Int × Int × Int × Int × (Int × Int × Int × Unit) × (List Int) × (List (Int × Int × Int × Unit)) × (List Int) × Unit) (p6_0_5 : Unit × Int × Int × Int × Unit) (o0_5 : ((List Int) × Int × (Option (Int × Int × Unit)) × Unit) × Unit) : Option ((((List Int) × Int × (List Int) × Int × Unit) × (((List Int) × Int × Int × Int × Unit) × (Int × Int × Int × Int × (Int × Int × Int × Unit) × (List Int) × (List (Int × Int × Int × Unit)) × (List Int) × Unit) × (Unit × Int × Int × Int × Unit) × (((List Int) × Int × (Option (Int × Int × Unit)) × Unit) × Unit) × Unit)) ⊕ ((((List Int) × Int × Int × Int × Unit) × Bool × Unit) × ((((List Int) × Int × (Option (Int × Int × Unit)) × Unit) × Unit) × Unit))) :=
  bif (decide (i_28_5 < n_26_5)) then
    (ref07_Take (p25_0_5.1, p25_0_5.2.1, p25_0_5.2.2.1, p25_0_5.2.2.2.1, ()) 1 p5_0_5.2.2.2.1).bind fun r_53 =>
    (roomI 8 want_27_5 [r_53.1.2.1]).bind fun v_54 =>
    some (.inl ((l_24_5, n_26_5, v_54, (IntKind.i64.wrap (i_28_5 + 1)), ()), r_53.1.1, (p5_0_5.1, p5_0_5.2.1, p5_0_5.2.2.1, p5_0_5.2.2.2.1, (p5_0_5.2.2.2.2.1.1, p5_0_5.2.2.2.2.1.2.1, p5_0_5.2.2.2.2.1.2.2.1, ()), p5_0_5.2.2.2.2.2.1, p5_0_5.2.2.2.2.2.2.1, p5_0_5.2.2.2.2.2.2.2.1, ()), (p6_0_5.1, p6_0_5.2.1, p6_0_5.2.2.1, p6_0_5.2.2.2.1, ()), ((o0_5.1.1, o0_5.1.2.1, o0_5.1.2.2.1, ()), ()), ()))
  else
  (bif (!decide (p25_0_5.2.2.1 = 0)) then
    some (((p25_0_5.1, p25_0_5.2.1, p25_0_5.2.2.1, p25_0_5.2.2.2.1, ()), (decide ((l_24_5.length : Int) = 0)), ()), ((o0_5.1.1, o0_5.1.2.1, o0_5.1.2.2.1, ()), ()), ())
  else
  loopR (fun (z : ((List Int) × (List Int) × Bool × Int × Unit) × (((List Int) × Int × Int × Int × Unit) × (Unit × Int × Int × Int × Unit) × (((List Int) × Int × (Option (Int × Int × Unit)) × Unit) × Unit) × Unit)) => law07_reads_1d4_s7 z.1.1 z.1.2.1 z.1.2.2.1 z.1.2.2.2.1 z.2.1 z.2.2.1 z.2.2.2.1) ((l_24_5, want_27_5, (decide ((l_24_5.length : Int) = (want_27_5.length : Int))), 0, ()), (p25_0_5.1, p25_0_5.2.1, p25_0_5.2.2.1, p25_0_5.2.2.2.1, ()), (p6_0_5.1, p6_0_5.2.1, p6_0_5.2.2.1, p6_0_5.2.2.2.1, ()), ((o0_5.1.1, o0_5.1.2.1, o0_5.1.2.2.1, ()), ()), ())).map .inr
noncomputable def law07_reads_1d4 (r_0 : ((List Int) × Int × Unit × Unit) × Unit) (x_1 : (List Int) × Int × Int × Int × Unit) (o_2 : Int × Int × Int × Int × (Int × Int × Int × Unit) × (List Int) × (List (Int × Int × Int × Unit)) × (List Int) × Unit) : Option ((((List Int) × Int × Int × Int × Unit) × Bool × Unit) × ((((List Int) × Int × (Option (Int × Int × Unit)) × Unit) × Unit) × Unit)) :=
  let t35_1 : Bool := decide (o_2.1 = 0)
  bif t35_1 then
    bif t35_1 then
      bif (decide (o_2.1 = 0)) then
        (wire_Reader_Byte_db0 ((r_0.1.1, r_0.1.2.1, r_0.1.2.2.1, ()), ()) o_2.2.2.1).bind fun r_3 =>
        (shlI .i64 1 (IntKind.u64.wrap o_2.1)).bind fun v_5 =>
        (ref07_Take (x_1.1, x_1.2.1, x_1.2.2.1, x_1.2.2.2.1, ()) v_5 o_2.2.2.1).bind fun r_6 =>
        some ((r_6.1.1, (decide (r_3.1.1 = r_6.1.2.1)), ()), r_3.2.1, ())
      else
      bif (decide (o_2.1 = 1)) then
        (wire_Reader_Two_db0 ((r_0.1.1, r_0.1.2.1, r_0.1.2.2.1, ()), ()) o_2.2.2.1).bind fun r_9 =>
        (shlI .i64 1 (IntKind.u64.wrap o_2.1)).bind fun v_11 =>
        (ref07_Take (x_1.1, x_1.2.1, x_1.2.2.1, x_1.2.2.2.1, ()) v_11 o_2.2.2.1).bind fun r_12 =>
        some ((r_12.1.1, (decide (r_9.1.1 = r_12.1.2.1)), ()), r_9.2.1, ())
      else
      (wire_Reader_Four_db0 ((r_0.1.1, r_0.1.2.1, r_0.1.2.2.1, ()), ()) o_2.2.2.1).bind fun r_14 =>
      (shlI .i64 1 (IntKind.u64.wrap o_2.1)).bind fun v_16 =>
      (ref07_Take (x_1.1, x_1.2.1, x_1.2.2.1, x_1.2.2.2.1, ()) v_16 o_2.2.2.1).bind fun r_17 =>
      some ((r_17.1.1, (decide (r_14.1.1 = r_17.1.2.1)), ()), r_14.2.1, ())
    else
    bif (decide (o_2.1 = 3)) then
      (wire_Reader_Vec_316 ((r_0.1.1, r_0.1.2.1, r_0.1.2.2.1, ()), ())).bind fun r_20 =>
      (ref07_TakeVec (x_1.1, x_1.2.1, x_1.2.2.1, x_1.2.2.2.1, ())).bind fun r_21 =>
      some ((r_21.1.1, (decide (r_20.1.1.1 = r_21.1.2.1.1) && (decide (r_20.1.1.2.1 = r_21.1.2.1.2.1) && decide (r_20.1.1.2.2.1 = r_21.1.2.1.2.2.1))), ()), r_20.2.1, ())
    else
    bif (decide (o_2.1 = 4)) then
      (wire_Reader_Name_316 ((r_0.1.1, r_0.1.2.1, r_0.1.2.2.1, ()), ())).bind fun r_24 =>
      (ref07_TakeName (x_1.1, x_1.2.1, x_1.2.2.1, x_1.2.2.2.1, ())).bind fun r_25 =>
      some ((r_25.1.1, (decide (r_24.1.1 = r_25.1.2.1)), ()), r_24.2.1, ())
    else
    bif (decide (o_2.1 = 5)) then
      (wire_Reader_Vecs_db0 ((r_0.1.1, r_0.1.2.1, r_0.1.2.2.1, ()), ()) o_2.2.2.1).bind fun r_28 =>
      (ref07_Count (x_1.1, x_1.2.1, x_1.2.2.1, x_1.2.2.2.1, ()) o_2.2.2.1).bind fun r_29 =>
      loopR (fun (z : ((List (Int × Int × Int × Unit)) × Int × (List (Int × Int × Int × Unit)) × Int × Unit) × (((List Int) × Int × Int × Int × Unit) × (Unit × Int × Int × Int × Unit) × (((List Int) × Int × (Option (Int × Int × Unit)) × Unit) × Unit) × Unit)) => law07_reads_1d4_s1 z.1.1 z.1.2.1 z.1.2.2.1 z.1.2.2.2.1 z.2.1 z.2.2.1 z.2.2.2.1) ((r_28.1.1, r_29.1.2.1, [], 0, ()), r_29.1.1, ((), 0, 0, 0, ()), r_28.2.1, ())
    else
    bif (decide (o_2.1 = 6)) then
      (wire_Reader_Numbers_395 ((r_0.1.1, r_0.1.2.1, r_0.1.2.2.1, ()), ()) o_2.2.2.1 o_2.2.2.2.1).bind fun r_50 =>
      (ref07_Count (x_1.1, x_1.2.1, x_1.2.2.1, x_1.2.2.2.1, ()) o_2.2.2.1).bind fun r_51 =>
      loopR (fun (z : ((List Int) × Int × (List Int) × Int × Unit) × (((List Int) × Int × Int × Int × Unit) × (Int × Int × Int × Int × (Int × Int × Int × Unit) × (List Int) × (List (Int × Int × Int × Unit)) × (List Int) × Unit) × (Unit × Int × Int × Int × Unit) × (((List Int) × Int × (Option (Int × Int × Unit)) × Unit) × Unit) × Unit)) => law07_reads_1d4_s5 z.1.1 z.1.2.1 z.1.2.2.1 z.1.2.2.2.1 z.2.1 z.2.2.1 z.2.2.2.1 z.2.2.2.2.1) ((r_50.1.1, r_51.1.2.1, [], 0, ()), r_51.1.1, (o_2.1, o_2.2.1, o_2.2.2.1, o_2.2.2.2.1, (o_2.2.2.2.2.1.1, o_2.2.2.2.2.1.2.1, o_2.2.2.2.2.1.2.2.1, ()), o_2.2.2.2.2.2.1, o_2.2.2.2.2.2.2.1, o_2.2.2.2.2.2.2.2.1, ()), ((), 0, 0, 0, ()), r_50.2.1, ())
    else
    bif (decide (o_2.1 = 7)) then
      (wire_Reader_Fail_e57 ((r_0.1.1, r_0.1.2.1, none, ()), ()) o_2.2.1).bind fun r_72 =>
      let t228_73 : Bool := decide (x_1.2.2.1 = 0)
      guardR t228_73 (some ()) () fun _ =>
      guardR t228_73 (some o_2.2.1) 0 fun v_74 =>
      guardR t228_73 (some (!decide (v_74 = 0))) false fun v_75 =>
      bif (bif t228_73 then v_75 else false) then
        some (((x_1.1, x_1.2.1, o_2.2.1, x_1.2.1, ()), true, ()), r_72.2.1, ())
      else
      some (((x_1.1, x_1.2.1, x_1.2.2.1, x_1.2.2.2.1, ()), true, ()), r_72.2.1, ())
    else
    some (((x_1.1, x_1.2.1, x_1.2.2.1, x_1.2.2.2.1, ()), true, ()), ((r_0.1.1, r_0.1.2.1, none, ()), ()), ())
  else
  let t36_77 : Bool := decide (o_2.1 = 1)
  bif t36_77 then
    bif t36_77 then
      bif (decide (o_2.1 = 0)) then
        (wire_Reader_Byte_db0 ((r_0.1.1, r_0.1.2.1, r_0.1.2.2.1, ()), ()) o_2.2.2.1).bind fun r_79 =>
        (shlI .i64 1 (IntKind.u64.wrap o_2.1)).bind fun v_81 =>
        (ref07_Take (x_1.1, x_1.2.1, x_1.2.2.1, x_1.2.2.2.1, ()) v_81 o_2.2.2.1).bind fun r_82 =>
        some ((r_82.1.1, (decide (r_79.1.1 = r_82.1.2.1)), ()), r_79.2.1, ())
      else
      bif (decide (o_2.1 = 1)) then
        (wire_Reader_Two_db0 ((r_0.1.1, r_0.1.2.1, r_0.1.2.2.1, ()), ()) o_2.2.2.1).bind fun r_85 =>
        (shlI .i64 1 (IntKind.u64.wrap o_2.1)).bind fun v_87 =>
        (ref07_Take (x_1.1, x_1.2.1, x_1.2.2.1, x_1.2.2.2.1, ()) v_87 o_2.2.2.1).bind fun r_88 =>
        some ((r_88.1.1, (decide (r_85.1.1 = r_88.1.2.1)), ()), r_85.2.1, ())
      else
      (wire_Reader_Four_db0 ((r_0.1.1, r_0.1.2.1, r_0.1.2.2.1, ()), ()) o_2.2.2.1).bind fun r_90 =>
      (shlI .i64 1 (IntKind.u64.wrap o_2.1)).bind fun v_92 =>
      (ref07_Take (x_1.1, x_1.2.1, x_1.2.2.1, x_1.2.2.2.1, ()) v_92 o_2.2.2.1).bind fun r_93 =>
      some ((r_93.1.1, (decide (r_90.1.1 = r_93.1.2.1)), ()), r_90.2.1, ())
    else
    bif (decide (o_2.1 = 3)) then
      (wire_Reader_Vec_316 ((r_0.1.1, r_0.1.2.1, r_0.1.2.2.1, ()), ())).bind fun r_96 =>
      (ref07_TakeVec (x_1.1, x_1.2.1, x_1.2.2.1, x_1.2.2.2.1, ())).bind fun r_97 =>
      some ((r_97.1.1, (decide (r_96.1.1.1 = r_97.1.2.1.1) && (decide (r_96.1.1.2.1 = r_97.1.2.1.2.1) && decide (r_96.1.1.2.2.1 = r_97.1.2.1.2.2.1))), ()), r_96.2.1, ())
    else
    bif (decide (o_2.1 = 4)) then
      (wire_Reader_Name_316 ((r_0.1.1, r_0.1.2.1, r_0.1.2.2.1, ()), ())).bind fun r_100 =>
      (ref07_TakeName (x_1.1, x_1.2.1, x_1.2.2.1, x_1.2.2.2.1, ())).bind fun r_101 =>
      some ((r_101.1.1, (decide (r_100.1.1 = r_101.1.2.1)), ()), r_100.2.1, ())
    else
    bif (decide (o_2.1 = 5)) then
      (wire_Reader_Vecs_db0 ((r_0.1.1, r_0.1.2.1, r_0.1.2.2.1, ()), ()) o_2.2.2.1).bind fun r_104 =>
      (ref07_Count (x_1.1, x_1.2.1, x_1.2.2.1, x_1.2.2.2.1, ()) o_2.2.2.1).bind fun r_105 =>
      loopR (fun (z : ((List (Int × Int × Int × Unit)) × Int × (List (Int × Int × Int × Unit)) × Int × Unit) × (((List Int) × Int × Int × Int × Unit) × (Unit × Int × Int × Int × Unit) × (((List Int) × Int × (Option (Int × Int × Unit)) × Unit) × Unit) × Unit)) => law07_reads_1d4_s1 z.1.1 z.1.2.1 z.1.2.2.1 z.1.2.2.2.1 z.2.1 z.2.2.1 z.2.2.2.1) ((r_104.1.1, r_105.1.2.1, [], 0, ()), r_105.1.1, ((), 0, 0, 0, ()), r_104.2.1, ())
    else
    bif (decide (o_2.1 = 6)) then
      (wire_Reader_Numbers_395 ((r_0.1.1, r_0.1.2.1, r_0.1.2.2.1, ()), ()) o_2.2.2.1 o_2.2.2.2.1).bind fun r_107 =>
      (ref07_Count (x_1.1, x_1.2.1, x_1.2.2.1, x_1.2.2.2.1, ()) o_2.2.2.1).bind fun r_108 =>
      loopR (fun (z : ((List Int) × Int × (List Int) × Int × Unit) × (((List Int) × Int × Int × Int × Unit) × (Int × Int × Int × Int × (Int × Int × Int × Unit) × (List Int) × (List (Int × Int × Int × Unit)) × (List Int) × Unit) × (Unit × Int × Int × Int × Unit) × (((List Int) × Int × (Option (Int × Int × Unit)) × Unit) × Unit) × Unit)) => law07_reads_1d4_s5 z.1.1 z.1.2.1 z.1.2.2.1 z.1.2.2.2.1 z.2.1 z.2.2.1 z.2.2.2.1 z.2.2.2.2.1) ((r_107.1.1, r_108.1.2.1, [], 0, ()), r_108.1.1, (o_2.1, o_2.2.1, o_2.2.2.1, o_2.2.2.2.1, (o_2.2.2.2.2.1.1, o_2.2.2.2.2.1.2.1, o_2.2.2.2.2.1.2.2.1, ()), o_2.2.2.2.2.2.1, o_2.2.2.2.2.2.2.1, o_2.2.2.2.2.2.2.2.1, ()), ((), 0, 0, 0, ()), r_107.2.1, ())
    else
    bif (decide (o_2.1 = 7)) then
      (wire_Reader_Fail_e57 ((r_0.1.1, r_0.1.2.1, none, ()), ()) o_2.2.1).bind fun r_110 =>
      let t228_111 : Bool := decide (x_1.2.2.1 = 0)
      guardR t228_111 (some ()) () fun _ =>
      guardR t228_111 (some o_2.2.1) 0 fun v_112 =>
      guardR t228_111 (some (!decide (v_112 = 0))) false fun v_113 =>
      bif (bif t228_111 then v_113 else false) then
        some (((x_1.1, x_1.2.1, o_2.2.1, x_1.2.1, ()), true, ()), r_110.2.1, ())
      else
      some (((x_1.1, x_1.2.1, x_1.2.2.1, x_1.2.2.2.1, ()), true, ()), r_110.2.1, ())
    else
    some (((x_1.1, x_1.2.1, x_1.2.2.1, x_1.2.2.2.1, ()), true, ()), ((r_0.1.1, r_0.1.2.1, none, ()), ()), ())
  else
  bif (decide (o_2.1 = 2)) then
    bif (decide (o_2.1 = 0)) then
      (wire_Reader_Byte_db0 ((r_0.1.1, r_0.1.2.1, r_0.1.2.2.1, ()), ()) o_2.2.2.1).bind fun r_117 =>
      (shlI .i64 1 (IntKind.u64.wrap o_2.1)).bind fun v_119 =>
      (ref07_Take (x_1.1, x_1.2.1, x_1.2.2.1, x_1.2.2.2.1, ()) v_119 o_2.2.2.1).bind fun r_120 =>
      some ((r_120.1.1, (decide (r_117.1.1 = r_120.1.2.1)), ()), r_117.2.1, ())
    else
    bif (decide (o_2.1 = 1)) then
      (wire_Reader_Two_db0 ((r_0.1.1, r_0.1.2.1, r_0.1.2.2.1, ()), ()) o_2.2.2.1).bind fun r_123 =>
      (shlI .i64 1 (IntKind.u64.wrap o_2.1)).bind fun v_125 =>
      (ref07_Take (x_1.1, x_1.2.1, x_1.2.2.1, x_1.2.2.2.1, ()) v_125 o_2.2.2.1).bind fun r_126 =>
      some ((r_126.1.1, (decide (r_123.1.1 = r_126.1.2.1)), ()), r_123.2.1, ())
    else
    (wire_Reader_Four_db0 ((r_0.1.1, r_0.1.2.1, r_0.1.2.2.1, ()), ()) o_2.2.2.1).bind fun r_128 =>
    (shlI .i64 1 (IntKind.u64.wrap o_2.1)).bind fun v_130 =>
    (ref07_Take (x_1.1, x_1.2.1, x_1.2.2.1, x_1.2.2.2.1, ()) v_130 o_2.2.2.1).bind fun r_131 =>
    some ((r_131.1.1, (decide (r_128.1.1 = r_131.1.2.1)), ()), r_128.2.1, ())
  else
  bif (decide (o_2.1 = 3)) then
    (wire_Reader_Vec_316 ((r_0.1.1, r_0.1.2.1, r_0.1.2.2.1, ()), ())).bind fun r_134 =>
    (ref07_TakeVec (x_1.1, x_1.2.1, x_1.2.2.1, x_1.2.2.2.1, ())).bind fun r_135 =>
    some ((r_135.1.1, (decide (r_134.1.1.1 = r_135.1.2.1.1) && (decide (r_134.1.1.2.1 = r_135.1.2.1.2.1) && decide (r_134.1.1.2.2.1 = r_135.1.2.1.2.2.1))), ()), r_134.2.1, ())
  else
  bif (decide (o_2.1 = 4)) then
    (wire_Reader_Name_316 ((r_0.1.1, r_0.1.2.1, r_0.1.2.2.1, ()), ())).bind fun r_138 =>
    (ref07_TakeName (x_1.1, x_1.2.1, x_1.2.2.1, x_1.2.2.2.1, ())).bind fun r_139 =>
    some ((r_139.1.1, (decide (r_138.1.1 = r_139.1.2.1)), ()), r_138.2.1, ())
  else
  bif (decide (o_2.1 = 5)) then
    (wire_Reader_Vecs_db0 ((r_0.1.1, r_0.1.2.1, r_0.1.2.2.1, ()), ()) o_2.2.2.1).bind fun r_142 =>
    (ref07_Count (x_1.1, x_1.2.1, x_1.2.2.1, x_1.2.2.2.1, ()) o_2.2.2.1).bind fun r_143 =>
    loopR (fun (z : ((List (Int × Int × Int × Unit)) × Int × (List (Int × Int × Int × Unit)) × Int × Unit) × (((List Int) × Int × Int × Int × Unit) × (Unit × Int × Int × Int × Unit) × (((List Int) × Int × (Option (Int × Int × Unit)) × Unit) × Unit) × Unit)) => law07_reads_1d4_s1 z.1.1 z.1.2.1 z.1.2.2.1 z.1.2.2.2.1 z.2.1 z.2.2.1 z.2.2.2.1) ((r_142.1.1, r_143.1.2.1, [], 0, ()), r_143.1.1, ((), 0, 0, 0, ()), r_142.2.1, ())
  else
  bif (decide (o_2.1 = 6)) then
    (wire_Reader_Numbers_395 ((r_0.1.1, r_0.1.2.1, r_0.1.2.2.1, ()), ()) o_2.2.2.1 o_2.2.2.2.1).bind fun r_145 =>
    (ref07_Count (x_1.1, x_1.2.1, x_1.2.2.1, x_1.2.2.2.1, ()) o_2.2.2.1).bind fun r_146 =>
    loopR (fun (z : ((List Int) × Int × (List Int) × Int × Unit) × (((List Int) × Int × Int × Int × Unit) × (Int × Int × Int × Int × (Int × Int × Int × Unit) × (List Int) × (List (Int × Int × Int × Unit)) × (List Int) × Unit) × (Unit × Int × Int × Int × Unit) × (((List Int) × Int × (Option (Int × Int × Unit)) × Unit) × Unit) × Unit)) => law07_reads_1d4_s5 z.1.1 z.1.2.1 z.1.2.2.1 z.1.2.2.2.1 z.2.1 z.2.2.1 z.2.2.2.1 z.2.2.2.2.1) ((r_145.1.1, r_146.1.2.1, [], 0, ()), r_146.1.1, (o_2.1, o_2.2.1, o_2.2.2.1, o_2.2.2.2.1, (o_2.2.2.2.2.1.1, o_2.2.2.2.2.1.2.1, o_2.2.2.2.2.1.2.2.1, ()), o_2.2.2.2.2.2.1, o_2.2.2.2.2.2.2.1, o_2.2.2.2.2.2.2.2.1, ()), ((), 0, 0, 0, ()), r_145.2.1, ())
  else
  bif (decide (o_2.1 = 7)) then
    (wire_Reader_Fail_e57 ((r_0.1.1, r_0.1.2.1, none, ()), ()) o_2.2.1).bind fun r_148 =>
    let t228_149 : Bool := decide (x_1.2.2.1 = 0)
    guardR t228_149 (some ()) () fun _ =>
    guardR t228_149 (some o_2.2.1) 0 fun v_150 =>
    guardR t228_149 (some (!decide (v_150 = 0))) false fun v_151 =>
    bif (bif t228_149 then v_151 else false) then
      some (((x_1.1, x_1.2.1, o_2.2.1, x_1.2.1, ()), true, ()), r_148.2.1, ())
    else
    some (((x_1.1, x_1.2.1, x_1.2.2.1, x_1.2.2.2.1, ()), true, ()), r_148.2.1, ())
  else
  some (((x_1.1, x_1.2.1, x_1.2.2.1, x_1.2.2.2.1, ()), true, ()), ((r_0.1.1, r_0.1.2.1, none, ()), ()), ())

noncomputable def ag21 : List AK := [.obj (.agg (.pair (.agg (.pair (.slice (.int .u8)) (.pair (.int .i64) (.pair .nilp .unit)))) .unit)), .val (.agg (.pair (.slice (.int .u8)) (.pair (.int .i64) (.pair (.int .i64) (.pair (.int .i64) .unit))))), .val (.agg (.pair (.int .i64) (.pair (.int .i64) (.pair (.int .i64) (.pair (.int .i64) (.pair (.agg (.pair (.int .i64) (.pair (.int .u64) (.pair (.int .u64) .unit)))) (.pair .str (.pair (.slice (.agg (.pair (.int .i64) (.pair (.int .u64) (.pair (.int .u64) .unit))))) (.pair (.slice (.int .i64)) .unit)))))))))]
noncomputable def al21 : List Alt := [([.val (.agg (.pair (.slice (.int .u8)) (.pair (.int .i64) (.pair (.int .i64) (.pair (.int .i64) .unit))))), .val .bool], [(.agg (.pair (.agg (.pair (.slice (.int .u8)) (.pair (.int .i64) (.pair (.ptr (.agg (.pair (.int .i64) (.pair (.int .i64) .unit)))) .unit)))) .unit))])]
noncomputable def sm21 : CSem := mkSemA ag21 al21 fun x => law07_reads_1d4 x.1 x.2.1 x.2.2.1
noncomputable def cf21 : Cfg := cf [(13, sem13), (54, sem54), (14, sem14), (15, sem15), (16, sem16), (55, sem55), (17, sem17), (56, sem56), (26, sem26), (57, sem57), (27, sem27), (25, sem25)] 241 1 [(3, ⟨[(6, .loc (nameOf 6 0) []), (16, .own (.agg (.pair (.int .i64) (.pair (.int .u64) (.pair (.int .u64) .unit)))) false), (17, .loc (nameOf 17 0) []), (19, .own (.agg (.pair (.int .i64) (.pair (.int .u64) (.pair (.int .u64) .unit)))) false), (22, .dat .bool), (23, .dat (.int .i64))], [((nameOf 17 0), (.agg (.pair (.slice (.int .u8)) (.pair (.int .i64) (.pair (.int .i64) (.pair (.int .i64) .unit)))))), ((nameOf 6 0), (.agg (.pair (.nils (.int .u8)) (.pair (.int .i64) (.pair (.int .i64) (.pair (.int .i64) .unit)))))), ((objName 0), (.agg (.pair (.agg (.pair (.slice (.int .u8)) (.pair (.int .i64) (.pair (.ptr (.agg (.pair (.int .i64) (.pair (.int .i64) .unit)))) .unit)))) .unit)))]⟩), (1, ⟨[(6, .loc (nameOf 6 0) []), (16, .own (.agg (.pair (.int .i64) (.pair (.int .u64) (.pair (.int .u64) .unit)))) false), (17, .loc (nameOf 17 0) []), (18, .dat (.int .i64)), (19, .own (.agg (.pair (.int .i64) (.pair (.int .u64) (.pair (.int .u64) .unit)))) false), (20, .dat (.int .i64))], [((nameOf 17 0), (.agg (.pair (.slice (.int .u8)) (.pair (.int .i64) (.pair (.int .i64) (.pair (.int .i64) .unit)))))), ((nameOf 6 0), (.agg (.pair (.nils (.int .u8)) (.pair (.int .i64) (.pair (.int .i64) (.pair (.int .i64) .unit)))))), ((objName 0), (.agg (.pair (.agg (.pair (.slice (.int .u8)) (.pair (.int .i64) (.pair (.ptr (.agg (.pair (.int .i64) (.pair (.int .i64) .unit)))) .unit)))) .unit)))]⟩), (7, ⟨[(6, .loc (nameOf 6 0) []), (24, .own (.int .i64) false), (25, .loc (nameOf 25 0) []), (27, .own (.int .i64) false), (30, .dat .bool), (31, .dat (.int .i64))], [((nameOf 25 0), (.agg (.pair (.slice (.int .u8)) (.pair (.int .i64) (.pair (.int .i64) (.pair (.int .i64) .unit)))))), ((nameOf 6 0), (.agg (.pair (.nils (.int .u8)) (.pair (.int .i64) (.pair (.int .i64) (.pair (.int .i64) .unit)))))), ((objName 0), (.agg (.pair (.agg (.pair (.slice (.int .u8)) (.pair (.int .i64) (.pair (.ptr (.agg (.pair (.int .i64) (.pair (.int .i64) .unit)))) .unit)))) .unit)))]⟩), (5, ⟨[(5, .loc (nameOf 5 0) []), (6, .loc (nameOf 6 0) []), (24, .own (.int .i64) false), (25, .loc (nameOf 25 0) []), (26, .dat (.int .i64)), (27, .own (.int .i64) false), (28, .dat (.int .i64))], [((nameOf 25 0), (.agg (.pair (.slice (.int .u8)) (.pair (.int .i64) (.pair (.int .i64) (.pair (.int .i64) .unit)))))), ((nameOf 5 0), (.agg (.pair (.int .i64) (.pair (.int .i64) (.pair (.int .i64) (.pair (.int .i64) (.pair (.agg (.pair (.int .i64) (.pair (.int .u64) (.pair (.int .u64) .unit)))) (.pair .str (.pair (.slice (.agg (.pair (.int .i64) (.pair (.int .u64) (.pair (.int .u64) .unit))))) (.pair (.slice (.int .i64)) .unit)))))))))), ((nameOf 6 0), (.agg (.pair (.nils (.int .u8)) (.pair (.int .i64) (.pair (.int .i64) (.pair (.int .i64) .unit)))))), ((objName 0), (.agg (.pair (.agg (.pair (.slice (.int .u8)) (.pair (.int .i64) (.pair (.ptr (.agg (.pair (.int .i64) (.pair (.int .i64) .unit)))) .unit)))) .unit)))]⟩)]

/-! ### shunter/shunterlaw07.reads -/
noncomputable def law07_reads_7f6_s3 (l_16_3 : List (Int × Int × Int × Unit)) (want_19_3 : List (Int × Int × Int × Unit)) (same_22_3 : Bool) (i_23_3 : Int) (p17_0_3 : (List Int) × Int × Int × Int × Unit) (p6_0_3 : Unit × Int × Int × Int × Unit) (o0_3 : ((List Int) × Int × (Option (Int × Int × Unit)) × Unit) × Unit) : Option ((((List (Int × Int × Int × Unit)) × (List (Int × Int × Int × Unit)) × Bool × Int × Unit) × (((List Int) × Int × Int × Int × Unit) × (Unit × Int × Int × Int × Unit) × (((List Int) × Int × (Option (Int × Int × Unit)) × Unit) × Unit) × Unit)) ⊕ ((((List Int) × Int × Int × Int × Unit) × Bool × Unit) × ((((List Int) × Int × (Option (Int × Int × Unit)) × Unit) × Unit) × Unit))) :=
  let t140_41 : Bool := decide (i_23_3 < (want_19_3.length : Int))
  guardR t140_41 (some ()) () fun _ =>
  bif (bif t140_41 then same_22_3 else false) then
    (Option.map (fun _ => i_23_3) (ckI i_23_3 l_16_3.length)).bind fun v_43 =>
    (rdI l_16_3 v_43).bind fun v_44 =>
    (Option.map (fun _ => i_23_3) (ckI i_23_3 want_19_3.length)).bind fun v_45 =>
    (rdI want_19_3 v_45).bind fun v_46 =>
    some (.inl ((l_16_3, want_19_3, (decide (v_44.1 = v_46.1) && (decide (v_44.2.1 = v_46.2.1) && decide (v_44.2.2.1 = v_46.2.2.1))), (IntKind.i64.wrap (i_23_3 + 1)), ()), (p17_0_3.1, p17_0_3.2.1, p17_0_3.2.2.1, p17_0_3.2.2.2.1, ()), (p6_0_3.1, p6_0_3.2.1, p6_0_3.2.2.1, p6_0_3.2.2.2.1, ()), ((o0_3.1.1, o0_3.1.2.1, o0_3.1.2.2.1, ()), ()), ()))
  else
  some (.inr (((p17_0_3.1, p17_0_3.2.1, p17_0_3.2.2.1, p17_0_3.2.2.2.1, ()), same_22_3, ()), ((o0_3.1.1, o0_3.1.2.1, o0_3.1.2.2.1, ()), ()), ()))
noncomputable def law07_reads_7f6_s1 (l_16_1 : List (Int × Int × Int × Unit)) (n_18_1 : Int) (want_19_1 : List (Int × Int × Int × Unit)) (i_20_1 : Int) (p17_0_1 : (List Int) × Int × Int × Int × Unit) (p6_0_1 : Unit × Int × Int × Int × Unit) (o0_1 : ((List Int) × Int × (Option (Int × Int × Unit)) × Unit) × Unit) : Option ((((List (Int × Int × Int × Unit)) × Int × (List (Int × Int × Int × Unit)) × Int × Unit) × (((List Int) × Int × Int × Int × Unit) × (Unit × Int × Int × Int × Unit) × (((List Int) × Int × (Option (Int × Int × Unit)) × Unit) × Unit) × Unit)) ⊕ ((((List Int) × Int × Int × Int × Unit) × Bool × Unit) × ((((List Int) × Int × (Option (Int × Int × Unit)) × Unit) × Unit) × Unit))) :=
  bif (decide (i_20_1 < n_18_1)) then
    (ref07_TakeVec (p17_0_1.1, p17_0_1.2.1, p17_0_1.2.2.1, p17_0_1.2.2.2.1, ())).bind fun r_31 =>
    (roomI 24 want_19_1 [r_31.1.2.1]).bind fun v_32 =>
    some (.inl ((l_16_1, n_18_1, v_32, (IntKind.i64.wrap (i_20_1 + 1)), ()), r_31.1.1, (p6_0_1.1, p6_0_1.2.1, p6_0_1.2.2.1, p6_0_1.2.2.2.1, ()), ((o0_1.1.1, o0_1.1.2.1, o0_1.1.2.2.1, ()), ()), ()))
  else
  (bif (!decide (p17_0_1.2.2.1 = 0)) then
    some (((p17_0_1.1, p17_0_1.2.1, p17_0_1.2.2.1, p17_0_1.2.2.2.1, ()), (decide ((l_16_1.length : Int) = 0)), ()), ((o0_1.1.1, o0_1.1.2.1, o0_1.1.2.2.1, ()), ()), ())
  else
  loopR (fun (z : ((List (Int × Int × Int × Unit)) × (List (Int × Int × Int × Unit)) × Bool × Int × Unit) × (((List Int) × Int × Int × Int × Unit) × (Unit × Int × Int × Int × Unit) × (((List Int) × Int × (Option (Int × Int × Unit)) × Unit) × Unit) × Unit)) => law07_reads_7f6_s3 z.1.1 z.1.2.1 z.1.2.2.1 z.1.2.2.2.1 z.2.1 z.2.2.1 z.2.2.2.1) ((l_16_1, want_19_1, (decide ((l_16_1.length : Int) = (want_19_1.length : Int))), 0, ()), (p17_0_1.1, p17_0_1.2.1, p17_0_1.2.2.1, p17_0_1.2.2.2.1, ()), (p6_0_1.1, p6_0_1.2.1, p6_0_1.2.2.1, p6_0_1.2.2.2.1, ()), ((o0_1.1.1, o0_1.1.2.1, o0_1.1.2.2.1, ()), ()), ())).map .inr
noncomputable def law07_reads_7f6_s7 (l_24_7 : List Int) (want_27_7 : List Int) (same_30_7 : Bool) (i_31_7 : Int) (p25_0_7 : (List Int) × Int × Int × Int × Unit) (p6_0_7 : Unit × Int × Int × Int × Unit) (o0_7 : ((List Int) × Int × (Option (Int × Int × Unit)) × Unit) × Unit) : Option ((((List Int) × (List Int) × Bool × Int × Unit) × (((List Int) × Int × Int × Int × Unit) × (Unit × Int × Int × Int × Unit) × (((List Int) × Int × (Option (Int × Int × Unit)) × Unit) × Unit) × Unit)) ⊕ ((((List Int) × Int × Int × Int × Unit) × Bool × Unit) × ((((List Int) × Int × (Option (Int × Int × Unit)) × Unit) × Unit) × Unit))) :=
  let t203_63 : Bool := decide (i_31_7 < (want_27_7.length : Int))
  guardR t203_63 (some ()) () fun _ =>
  bif (bif t203_63 then same_30_7 else false) then
    (Option.map (fun _ => i_31_7) (ckI i_31_7 l_24_7.length)).bind fun v_65 =>
    (rdI l_24_7 v_65).bind fun v_66 =>
    (Option.map (fun _ => i_31_7) (ckI i_31_7 want_27_7.length)).bind fun v_67 =>
    (rdI want_27_7 v_67).bind fun v_68 =>
    some (.inl ((l_24_7, want_27_7, (decide (v_66 = v_68)), (IntKind.i64.wrap (i_31_7 + 1)), ()), (p25_0_7.1, p25_0_7.2.1, p25_0_7.2.2.1, p25_0_7.2.2.2.1, ()), (p6_0_7.1, p6_0_7.2.1, p6_0_7.2.2.1, p6_0_7.2.2.2.1, ()), ((o0_7.1.1, o0_7.1.2.1, o0_7.1.2.2.1, ()), ()), ()))
  else
  some (.inr (((p25_0_7.1, p25_0_7.2.1, p25_0_7.2.2.1, p25_0_7.2.2.2.1, ()), same_30_7, ()), ((o0_7.1.1, o0_7.1.2.1, o0_7.1.2.2.1, ()), ()), ()))
noncomputable def law07_reads_7f6_s5 (l_24_5 : List Int) (n_26_5 : Int) (want_27_5 : List Int) (i_28_5 : Int) (p25_0_5 : (List Int) × Int × Int × Int × Unit) (p5_0_5 : Int × Int × Int × Int × (Int × Int × Int × Unit) × (List Int) × (List (Int × Int × Int × Unit)) × (List Int) × Unit) (p6_0_5 : Unit × Int × Int × Int × Unit) (o0_5 : ((List Int) × Int × (Option (Int × Int × Unit)) × Unit) × Unit) : Option ((((List Int) × Int × (List Int) × Int × Unit) × (((List Int) × Int × Int × Int × Unit) × (Int × Int × Int × Int × (Int × Int × Int × Unit) × (List Int) × (List (Int × Int × Int × Unit)) × (List Int) × Unit) × (Unit × Int × Int × Int × Unit) × (((List Int) × Int × (Option (Int × Int × Unit)) × Unit) × Unit) × Unit)) ⊕ ((((List Int) × Int × Int × Int × Unit) × Bool × Unit) × ((((List Int) × Int × (Option (Int × Int × Unit)) × Unit) × Unit) × Unit))) :=
  bif (decide (i_28_5 < n_26_5)) then
    (ref07_Take (p25_0_5.1, p25_0_5.2.1, p25_0_5.2.2.1, p25_0_5.2.2.2.1, ()) 1 p5_0_5.2.2.2.1).bind fun r_53 =>
    (roomI 8 want_27_5 [r_53.1.2.1]).bind fun v_54 =>
    some (.inl ((l_24_5, n_26_5, v_54, (IntKind.i64.wrap (i_28_5 + 1)), ()), r_53.1.1, (p5_0_5.1, p5_0_5.2.1, p5_0_5.2.2.1, p5_0_5.2.2.2.1, (p5_0_5.2.2.2.2.1.1, p5_0_5.2.2.2.2.1.2.1, p5_0_5.2.2.2.2.1.2.2.1, ()), p5_0_5.2.2.2.2.2.1, p5_0_5.2.2.2.2.2.2.1, p5_0_5.2.2.2.2.2.2.2.1, ()), (p6_0_5.1, p6_0_5.2.1, p6_0_5.2.2.1, p6_0_5.2.2.2.1, ()), ((o0_5.1.1, o0_5.1.2.1, o0_5.1.2.2.1, ()), ()), ()))
  else
  (bif (!decide (p25_0_5.2.2.1 = 0)) then
    some (((p25_0_5.1, p25_0_5.2.1, p25_0_5.2.2.1, p25_0_5.2.2.2.1, ()), (decide ((l_24_5.length : Int) = 0)), ()), ((o0_5.1.1, o0_5.1.2.1, o0_5.1.2.2.1, ()), ()), ())
  else
  loopR (fun (z : ((List Int) × (List Int) × Bool × Int × Unit) × (((List Int) × Int × Int × Int × Unit) × (Unit × Int × Int × Int × Unit) × (((List Int) × Int × (Option (Int × Int × Unit)) × Unit) × Unit) × Unit)) => law07_reads_7f6_s7 z.1.1 z.1.2.1 z.1.2.2.1 z.1.2.2.2.1 z.2.1 z.2.2.1 z.2.2.2.1) ((l_24_5, want_27_5, (decide ((l_24_5.length : Int) = (want_27_5.length : Int))), 0, ()), (p25_0_5.1, p25_0_5.2.1, p25_0_5.2.2.1, p25_0_5.2.2.2.1, ()), (p6_0_5.1, p6_0_5.2.1, p6_0_5.2.2.1, p6_0_5.2.2.2.1, ()), ((o0_5.1.1, o0_5.1.2.1, o0_5.1.2.2.1, ()), ()), ())).map .inr
noncomputable def law07_reads_7f6 (r_0 : ((List Int) × Int × (Option (Int × Int × Unit)) × Unit) × Unit) (x_1 : (List Int) × Int × Int × Int × Unit) (o_2 : Int × Int × Int × Int × (Int × Int × Int × Unit) × (List Int) × (List (Int × Int × Int × Unit)) × (List Int) × Unit) : Option ((((List Int) × Int × Int × Int × Unit) × Bool × Unit) × ((((List Int) × Int × (Option (Int × Int × Unit)) × Unit) × Unit) × Unit)) :=
  let t35_1 : Bool := decide (o_2.1 = 0)
  bif t35_1 then
    bif t35_1 then
      bif (decide (o_2.1 = 0)) then
        (wire_Reader_Byte_e57 ((r_0.1.1, r_0.1.2.1, r_0.1.2.2.1, ()), ()) o_2.2.2.1).bind fun r_3 =>
        (shlI .i64 1 (IntKind.u64.wrap o_2.1)).bind fun v_5 =>
        (ref07_Take (x_1.1, x_1.2.1, x_1.2.2.1, x_1.2.2.2.1, ()) v_5 o_2.2.2.1).bind fun r_6 =>
        some ((r_6.1.1, (decide (r_3.1.1 = r_6.1.2.1)), ()), r_3.2.1, ())
      else
      bif (decide (o_2.1 = 1)) then
        (wire_Reader_Two_e57 ((r_0.1.1, r_0.1.2.1, r_0.1.2.2.1, ()), ()) o_2.2.2.1).bind fun r_9 =>
        (shlI .i64 1 (IntKind.u64.wrap o_2.1)).bind fun v_11 =>
        (ref07_Take (x_1.1, x_1.2.1, x_1.2.2.1, x_1.2.2.2.1, ()) v_11 o_2.2.2.1).bind fun r_12 =>
        some ((r_12.1.1, (decide (r_9.1.1 = r_12.1.2.1)), ()), r_9.2.1, ())
      else
      (wire_Reader_Four_e57 ((r_0.1.1, r_0.1.2.1, r_0.1.2.2.1, ()), ()) o_2.2.2.1).bind fun r_14 =>
      (shlI .i64 1 (IntKind.u64.wrap o_2.1)).bind fun v_16 =>
      (ref07_Take (x_1.1, x_1.2.1, x_1.2.2.1, x_1.2.2.2.1, ()) v_16 o_2.2.2.1).bind fun r_17 =>
      some ((r_17.1.1, (decide (r_14.1.1 = r_17.1.2.1)), ()), r_14.2.1, ())
    else
    bif (decide (o_2.1 = 3)) then
      (wire_Reader_Vec_59d ((r_0.1.1, r_0.1.2.1, r_0.1.2.2.1, ()), ())).bind fun r_20 =>
      (ref07_TakeVec (x_1.1, x_1.2.1, x_1.2.2.1, x_1.2.2.2.1, ())).bind fun r_21 =>
      some ((r_21.1.1, (decide (r_20.1.1.1 = r_21.1.2.1.1) && (decide (r_20.1.1.2.1 = r_21.1.2.1.2.1) && decide (r_20.1.1.2.2.1 = r_21.1.2.1.2.2.1))), ()), r_20.2.1, ())
    else
    bif (decide (o_2.1 = 4)) then
      (wire_Reader_Name_59d ((r_0.1.1, r_0.1.2.1, r_0.1.2.2.1, ()), ())).bind fun r_24 =>
      (ref07_TakeName (x_1.1, x_1.2.1, x_1.2.2.1, x_1.2.2.2.1, ())).bind fun r_25 =>
      some ((r_25.1.1, (decide (r_24.1.1 = r_25.1.2.1)), ()), r_24.2.1, ())
    else
    bif (decide (o_2.1 = 5)) then
      (wire_Reader_Vecs_e57 ((r_0.1.1, r_0.1.2.1, r_0.1.2.2.1, ()), ()) o_2.2.2.1).bind fun r_28 =>
      (ref07_Count (x_1.1, x_1.2.1, x_1.2.2.1, x_1.2.2.2.1, ()) o_2.2.2.1).bind fun r_29 =>
      loopR (fun (z : ((List (Int × Int × Int × Unit)) × Int × (List (Int × Int × Int × Unit)) × Int × Unit) × (((List Int) × Int × Int × Int × Unit) × (Unit × Int × Int × Int × Unit) × (((List Int) × Int × (Option (Int × Int × Unit)) × Unit) × Unit) × Unit)) => law07_reads_7f6_s1 z.1.1 z.1.2.1 z.1.2.2.1 z.1.2.2.2.1 z.2.1 z.2.2.1 z.2.2.2.1) ((r_28.1.1, r_29.1.2.1, [], 0, ()), r_29.1.1, ((), 0, 0, 0, ()), r_28.2.1, ())
    else
    bif (decide (o_2.1 = 6)) then
      (wire_Reader_Numbers_28a ((r_0.1.1, r_0.1.2.1, r_0.1.2.2.1, ()), ()) o_2.2.2.1 o_2.2.2.2.1).bind fun r_50 =>
      (ref07_Count (x_1.1, x_1.2.1, x_1.2.2.1, x_1.2.2.2.1, ()) o_2.2.2.1).bind fun r_51 =>
      loopR (fun (z : ((List Int) × Int × (List Int) × Int × Unit) × (((List Int) × Int × Int × Int × Unit) × (Int × Int × Int × Int × (Int × Int × Int × Unit) × (List Int) × (List (Int × Int × Int × Unit)) × (List Int) × Unit) × (Unit × Int × Int × Int × Unit) × (((List Int) × Int × (Option (Int × Int × Unit)) × Unit) × Unit) × Unit)) => law07_reads_7f6_s5 z.1.1 z.1.2.1 z.1.2.2.1 z.1.2.2.2.1 z.2.1 z.2.2.1 z.2.2.2.1 z.2.2.2.2.1) ((r_50.1.1, r_51.1.2.1, [], 0, ()), r_51.1.1, (o_2.1, o_2.2.1, o_2.2.2.1, o_2.2.2.2.1, (o_2.2.2.2.2.1.1, o_2.2.2.2.2.1.2.1, o_2.2.2.2.2.1.2.2.1, ()), o_2.2.2.2.2.2.1, o_2.2.2.2.2.2.2.1, o_2.2.2.2.2.2.2.2.1, ()), ((), 0, 0, 0, ()), r_50.2.1, ())
    else
    bif (decide (o_2.1 = 7)) then
      (wire_Reader_Fail_e57 ((r_0.1.1, r_0.1.2.1, r_0.1.2.2.1, ()), ()) o_2.2.1).bind fun r_72 =>
      let t228_73 : Bool := decide (x_1.2.2.1 = 0)
      guardR t228_73 (some ()) () fun _ =>
      guardR t228_73 (some o_2.2.1) 0 fun v_74 =>
      guardR t228_73 (some (!decide (v_74 = 0))) false fun v_75 =>
      bif (bif t228_73 then v_75 else false) then
        some (((x_1.1, x_1.2.1, o_2.2.1, x_1.2.1, ()), true, ()), r_72.2.1, ())
      else
      some (((x_1.1, x_1.2.1, x_1.2.2.1, x_1.2.2.2.1, ()), true, ()), r_72.2.1, ())
    else
    some (((x_1.1, x_1.2.1, x_1.2.2.1, x_1.2.2.2.1, ()), true, ()), ((r_0.1.1, r_0.1.2.1, r_0.1.2.2.1, ()), ()), ())
  else
  let t36_77 : Bool := decide (o_2.1 = 1)
  bif t36_77 then
    bif t36_77 then
      bif (decide (o_2.1 = 0)) then
        (wire_Reader_Byte_e57 ((r_0.1.1, r_0.1.2.1, r_0.1.2.2.1, ()), ()) o_2.2.2.1).bind fun r_79 =>
        (shlI .i64 1 (IntKind.u64.wrap o_2.1)).bind fun v_81 =>
        (ref07_Take (x_1.1, x_1.2.1, x_1.2.2.1, x_1.2.2.2.1, ()) v_81 o_2.2.2.1).bind fun r_82 =>
        some ((r_82.1.1, (decide (r_79.1.1 = r_82.1.2.1)), ()), r_79.2.1, ())
      else
      bif (decide (o_2.1 = 1)) then
        (wire_Reader_Two_e57 ((r_0.1.1, r_0.1.2.1, r_0.1.2.2.1, ()), ()) o_2.2.2.1).bind fun r_85 =>
        (shlI .i64 1 (IntKind.u64.wrap o_2.1)).bind fun v_87 =>
        (ref07_Take (x_1.1, x_1.2.1, x_1.2.2.1, x_1.2.2.2.1, ()) v_87 o_2.2.2.1).bind fun r_88 =>
        some ((r_88.1.1, (decide (r_85.1.1 = r_88.1.2.1)), ()), r_85.2.1, ())
      else
      (wire_Reader_Four_e57 ((r_0.1.1, r_0.1.2.1, r_0.1.2.2.1, ()), ()) o_2.2.2.1).bind fun r_90 =>
      (shlI .i64 1 (IntKind.u64.wrap o_2.1)).bind fun v_92 =>
      (ref07_Take (x_1.1, x_1.2.1, x_1.2.2.1, x_1.2.2.2.1, ()) v_92 o_2.2.2.1).bind fun r_93 =>
      some ((r_93.1.1, (decide (r_90.1.1 = r_93.1.2.1)), ()), r_90.2.1, ())
    else
    bif (decide (o_2.1 = 3)) then
      (wire_Reader_Vec_59d ((r_0.1.1, r_0.1.2.1, r_0.1.2.2.1, ()), ())).bind fun r_96 =>
      (ref07_TakeVec (x_1.1, x_1.2.1, x_1.2.2.1, x_1.2.2.2.1, ())).bind fun r_97 =>
      some ((r_97.1.1, (decide (r_96.1.1.1 = r_97.1.2.1.1) && (decide (r_96.1.1.2.1 = r_97.1.2.1.2.1) && decide (r_96.1.1.2.2.1 = r_97.1.2.1.2.2.1))), ()), r_96.2.1, ())
    else
    bif (decide (o_2.1 = 4)) then
      (wire_Reader_Name_59d ((r_0.1.1, r_0.1.2.1, r_0.1.2.2.1, ()), ())).bind fun r_100 =>
      (ref07_TakeName (x_1.1, x_1.2.1, x_1.2.2.1, x_1.2.2.2.1, ())).bind fun r_101 =>
      some ((r_101.1.1, (decide (r_100.1.1 = r_101.1.2.1)), ()), r_100.2.1, ())
    else
    bif (decide (o_2.1 = 5)) then
      (wire_Reader_Vecs_e57 ((r_0.1.1, r_0.1.2.1, r_0.1.2.2.1, ()), ()) o_2.2.2.1).bind fun r_104 =>
      (ref07_Count (x_1.1, x_1.2.1, x_1.2.2.1, x_1.2.2.2.1, ()) o_2.2.2.1).bind fun r_105 =>
      loopR (fun (z : ((List (Int × Int × Int × Unit)) × Int × (List (Int × Int × Int × Unit)) × Int × Unit) × (((List Int) × Int × Int × Int × Unit) × (Unit × Int × Int × Int × Unit) × (((List Int) × Int × (Option (Int × Int × Unit)) × Unit) × Unit) × Unit)) => law07_reads_7f6_s1 z.1.1 z.1.2.1 z.1.2.2.1 z.1.2.2.2.1 z.2.1 z.2.2.1 z.2.2.2.1) ((r_104.1.1, r_105.1.2.1, [], 0, ()), r_105.1.1, ((), 0, 0, 0, ()), r_104.2.1, ())
    else
    bif (decide (o_2.1 = 6)) then
      (wire_Reader_Numbers_28a ((r_0.1.1, r_0.1.2.1, r_0.1.2.2.1, ()), ()) o_2.2.2.1 o_2.2.2.2.1).bind fun r_107 =>
      (ref07_Count (x_1.1, x_1.2.1, x_1.2.2.1, x_1.2.2.2.1, ()) o_2.2.2.1).bind fun r_108 =>
      loopR (fun (z : ((List Int) × Int × (List Int) × Int × Unit) × (((List Int) × Int × Int × Int × Unit) × (Int × Int × Int × Int × (Int × Int × Int × Unit) × (List Int) × (List (Int × Int × Int × Unit)) × (List Int) × Unit) × (Unit × Int × Int × Int × Unit) × (((List Int) × Int × (Option (Int × Int × Unit)) × Unit) × Unit) × Unit)) => law07_reads_7f6_s5 z.1.1 z.1.2.1 z.1.2.2.1 z.1.2.2.2.1 z.2.1 z.2.2.1 z.2.2.2.1 z.2.2.2.2.1) ((r_107.1.1, r_108.1.2.1, [], 0, ()), r_108.1.1, (o_2.1, o_2.2.1, o_2.2.2.1, o_2.2.2.2.1, (o_2.2.2.2.2.1.1, o_2.2.2.2.2.1.2.1, o_2.2.2.2.2.1.2.2.1, ()), o_2.2.2.2.2.2.1, o_2.2.2.2.2.2.2.1, o_2.2.2.2.2.2.2.2.1, ()), ((), 0, 0, 0, ()), r_107.2.1, ())
    else
    bif (decide (o_2.1 = 7)) then
      (wire_Reader_Fail_e57 ((r_0.1.1, r_0.1.2.1, r_0.1.2.2.1, ()), ()) o_2.2.1).bind fun r_110 =>
      let t228_111 : Bool := decide (x_1.2.2.1 = 0)
      guardR t228_111 (some ()) () fun _ =>
      guardR t228_111 (some o_2.2.1) 0 fun v_112 =>
      guardR t228_111 (some (!decide (v_112 = 0))) false fun v_113 =>
      bif (bif t228_111 then v_113 else false) then
        some (((x_1.1, x_1.2.1, o_2.2.1, x_1.2.1, ()), true, ()), r_110.2.1, ())
      else
      some (((x_1.1, x_1.2.1, x_1.2.2.1, x_1.2.2.2.1, ()), true, ()), r_110.2.1, ())
    else
    some (((x_1.1, x_1.2.1, x_1.2.2.1, x_1.2.2.2.1, ()), true, ()), ((r_0.1.1, r_0.1.2.1, r_0.1.2.2.1, ()), ()), ())
  else
  bif (decide (o_2.1 = 2)) then
    bif (decide (o_2.1 = 0)) then
      (wire_Reader_Byte_e57 ((r_0.1.1, r_0.1.2.1, r_0.1.2.2.1, ()), ()) o_2.2.2.1).bind fun r_117 =>
      (shlI .i64 1 (IntKind.u64.wrap o_2.1)).bind fun v_119 =>
      (ref07_Take (x_1.1, x_1.2.1, x_1.2.2.1, x_1.2.2.2.1, ()) v_119 o_2.2.2.1).bind fun r_120 =>
      some ((r_120.1.1, (decide (r_117.1.1 = r_120.1.2.1)), ()), r_117.2.1, ())
    else
    bif (decide (o_2.1 = 1)) then
      (wire_Reader_Two_e57 ((r_0.1.1, r_0.1.2.1, r_0.1.2.2.1, ()), ()) o_2.2.2.1).bind fun r_123 =>
      (shlI .i64 1 (IntKind.u64.wrap o_2.1)).bind fun v_125 =>
      (ref07_Take (x_1.1, x_1.2.1, x_1.2.2.1, x_1.2.2.2.1, ()) v_125 o_2.2.2.1).bind fun r_126 =>
      some ((r_126.1.1, (decide (r_123.1.1 = r_126.1.2.1)), ()), r_123.2.1, ())
    else
    (wire_Reader_Four_e57 ((r_0.1.1, r_0.1.2.1, r_0.1.2.2.1, ()), ()) o_2.2.2.1).bind fun r_128 =>
    (shlI .i64 1 (IntKind.u64.wrap o_2.1)).bind fun v_130 =>
    (ref07_Take (x_1.1, x_1.2.1, x_1.2.2.1, x_1.2.2.2.1, ()) v_130 o_2.2.2.1).bind fun r_131 =>
    some ((r_131.1.1, (decide (r_128.1.1 = r_131.1.2.1)), ()), r_128.2.1, ())
  else
  bif (decide (o_2.1 = 3)) then
    (wire_Reader_Vec_59d ((r_0.1.1, r_0.1.2.1, r_0.1.2.2.1, ()), ())).bind fun r_134 =>
    (ref07_TakeVec (x_1.1, x_1.2.1, x_1.2.2.1, x_1.2.2.2.1, ())).bind fun r_135 =>
    some ((r_135.1.1, (decide (r_134.1.1.1 = r_135.1.2.1.1) && (decide (r_134.1.1.2.1 = r_135.1.2.1.2.1) && decide (r_134.1.1.2.2.1 = r_135.1.2.1.2.2.1))), ()), r_134.2.1, ())
  else
  bif (decide (o_2.1 = 4)) then
    (wire_Reader_Name_59d ((r_0.1.1, r_0.1.2.1, r_0.1.2.2.1, ()), ())).bind fun r_138 =>
    (ref07_TakeName (x_1.1, x_1.2.1, x_1.2.2.1, x_1.2.2.2.1, ())).bind fun r_139 =>
    some ((r_139.1.1, (decide (r_138.1.1 = r_139.1.2.1)), ()), r_138.2.1, ())
  else
  bif (decide (o_2.1 = 5)) then
    (wire_Reader_Vecs_e57 ((r_0.1.1, r_0.1.2.1, r_0.1.2.2.1, ()), ()) o_2.2.2.1).bind fun r_142 =>
    (ref07_Count (x_1.1, x_1.2.1, x_1.2.2.1, x_1.2.2.2.1, ()) o_2.2.2.1).bind fun r_143 =>
    loopR (fun (z : ((List (Int × Int × Int × Unit)) × Int × (List (Int × Int × Int × Unit)) × Int × Unit) × (((List Int) × Int × Int × Int × Unit) × (Unit × Int × Int × Int × Unit) × (((List Int) × Int × (Option (Int × Int × Unit)) × Unit) × Unit) × Unit)) => law07_reads_7f6_s1 z.1.1 z.1.2.1 z.1.2.2.1 z.1.2.2.2.1 z.2.1 z.2.2.1 z.2.2.2.1) ((r_142.1.1, r_143.1.2.1, [], 0, ()), r_143.1.1, ((), 0, 0, 0, ()), r_142.2.1, ())
  else
  bif (decide (o_2.1 = 6)) then
    (wire_Reader_Numbers_28a ((r_0.1.1, r_0.1.2.1, r_0.1.2.2.1, ()), ()) o_2.2.2.1 o_2.2.2.2.1).bind fun r_145 =>
    (ref07_Count (x_1.1, x_1.2.1, x_1.2.2.1, x_1.2.2.2.1, ()) o_2.2.2.1).bind fun r_146 =>
    loopR (fun (z : ((List Int) × Int × (List Int) × Int × Unit) × (((List Int) × Int × Int × Int × Unit) × (Int × Int × Int × Int × (Int × Int × Int × Unit) × (List Int) × (List (Int × Int × Int × Unit)) × (List Int) × Unit) × (Unit × Int × Int × Int × Unit) × (((List Int) × Int × (Option (Int × Int × Unit)) × Unit) × Unit) × Unit)) => law07_reads_7f6_s5 z.1.1 z.1.2.1 z.1.2.2.1 z.1.2.2.2.1 z.2.1 z.2.2.1 z.2.2.2.1 z.2.2.2.2.1) ((r_145.1.1, r_146.1.2.1, [], 0, ()), r_146.1.1, (o_2.1, o_2.2.1, o_2.2.2.1, o_2.2.2.2.1, (o_2.2.2.2.2.1.1, o_2.2.2.2.2.1.2.1, o_2.2.2.2.2.1.2.2.1, ()), o_2.2.2.2.2.2.1, o_2.2.2.2.2.2.2.1, o_2.2.2.2.2.2.2.2.1, ()), ((), 0, 0, 0, ()), r_145.2.1, ())
  else
  bif (decide (o_2.1 = 7)) then
    (wire_Reader_Fail_e57 ((r_0.1.1, r_0.1.2.1, r_0.1.2.2.1, ()), ()) o_2.2.1).bind fun r_148 =>
    let t228_149 : Bool := decide (x_1.2.2.1 = 0)
    guardR t228_149 (some ()) () fun _ =>
    guardR t228_149 (some o_2.2.1) 0 fun v_150 =>
    guardR t228_149 (some (!decide (v_150 = 0))) false fun v_151 =>
    bif (bif t228_149 then v_151 else false) then
      some (((x_1.1, x_1.2.1, o_2.2.1, x_1.2.1, ()), true, ()), r_148.2.1, ())
    else
    some (((x_1.1, x_1.2.1, x_1.2.2.1, x_1.2.2.2.1, ()), true, ()), r_148.2.1, ())
  else
  some (((x_1.1, x_1.2.1, x_1.2.2.1, x_1.2.2.2.1, ()), true, ()), ((r_0.1.1, r_0.1.2.1, r_0.1.2.2.1, ()), ()), ())

noncomputable def ag21a : List AK := [.obj (.agg (.pair (.agg (.pair (.slice (.int .u8)) (.pair (.int .i64) (.pair (.ptr (.agg (.pair (.int .i64) (.pair (.int .i64) .unit)))) .unit)))) .unit)), .val (.agg (.pair (.slice (.int .u8)) (.pair (.int .i64) (.pair (.int .i64) (.pair (.int .i64) .unit))))), .val (.agg (.pair (.int .i64) (.pair (.int .i64) (.pair (.int .i64) (.pair (.int .i64) (.pair (.agg (.pair (.int .i64) (.pair (.int .u64) (.pair (.int .u64) .unit)))) (.pair .str (.pair (.slice (.agg (.pair (.int .i64) (.pair (.int .u64) (.pair (.int .u64) .unit))))) (.pair (.slice (.int .i64)) .unit)))))))))]
noncomputable def al21a : List Alt := [([.val (.agg (.pair (.slice (.int .u8)) (.pair (.int .i64) (.pair (.int .i64) (.pair (.int .i64) .unit))))), .val .bool], [(.agg (.pair (.agg (.pair (.slice (.int .u8)) (.pair (.int .i64) (.pair (.ptr (.agg (.pair (.int .i64) (.pair (.int .i64) .unit)))) .unit)))) .unit))])]
noncomputable def sm21a : CSem := mkSemA ag21a al21a fun x => law07_reads_7f6 x.1 x.2.1 x.2.2.1
noncomputable def cf21a : Cfg := cf [(13, sem13), (54, sem54), (14, sem14), (15, sem15), (16, sem16), (55, sem55), (17, sem17), (56, sem56), (26, sem26), (57, sem57), (27, sem27), (25, sem25)] 241 1 [(3, ⟨[(6, .loc (nameOf 6 0) []), (16, .own (.agg (.pair (.int .i64) (.pair (.int .u64) (.pair (.int .u64) .unit)))) false), (17, .loc (nameOf 17 0) []), (19, .own (.agg (.pair (.int .i64) (.pair (.int .u64) (.pair (.int .u64) .unit)))) false), (22, .dat .bool), (23, .dat (.int .i64))], [((nameOf 17 0), (.agg (.pair (.slice (.int .u8)) (.pair (.int .i64) (.pair (.int .i64) (.pair (.int .i64) .unit)))))), ((nameOf 6 0), (.agg (.pair (.nils (.int .u8)) (.pair (.int .i64) (.pair (.int .i64) (.pair (.int .i64) .unit)))))), ((objName 0), (.agg (.pair (.agg (.pair (.slice (.int .u8)) (.pair (.int .i64) (.pair (.ptr (.agg (.pair (.int .i64) (.pair (.int .i64) .unit)))) .unit)))) .unit)))]⟩), (1, ⟨[(6, .loc (nameOf 6 0) []), (16, .own (.agg (.pair (.int .i64) (.pair (.int .u64) (.pair (.int .u64) .unit)))) false), (17, .loc (nameOf 17 0) []), (18, .dat (.int .i64)), (19, .own (.agg (.pair (.int .i64) (.pair (.int .u64) (.pair (.int .u64) .unit)))) false), (20, .dat (.int .i64))], [((nameOf 17 0), (.agg (.pair (.slice (.int .u8)) (.pair (.int .i64) (.pair (.int .i64) (.pair (.int .i64) .unit)))))), ((nameOf 6 0), (.agg (.pair (.nils (.int .u8)) (.pair (.int .i64) (.pair (.int .i64) (.pair (.int .i64) .unit)))))), ((objName 0), (.agg (.pair (.agg (.pair (.slice (.int .u8)) (.pair (.int .i64) (.pair (.ptr (.agg (.pair (.int .i64) (.pair (.int .i64) .unit)))) .unit)))) .unit)))]⟩), (7, ⟨[(6, .loc (nameOf 6 0) []), (24, .own (.int .i64) false), (25, .loc (nameOf 25 0) []), (27, .own (.int .i64) false), (30, .dat .bool), (31, .dat (.int .i64))], [((nameOf 25 0), (.agg (.pair (.slice (.int .u8)) (.pair (.int .i64) (.pair (.int .i64) (.pair (.int .i64) .unit)))))), ((nameOf 6 0), (.agg (.pair (.nils (.int .u8)) (.pair (.int .i64) (.pair (.int .i64) (.pair (.int .i64) .unit)))))), ((objName 0), (.agg (.pair (.agg (.pair (.slice (.int .u8)) (.pair (.int .i64) (.pair (.ptr (.agg (.pair (.int .i64) (.pair (.int .i64) .unit)))) .unit)))) .unit)))]⟩), (5, ⟨[(5, .loc (nameOf 5 0) []), (6, .loc (nameOf 6 0) []), (24, .own (.int .i64) false), (25, .loc (nameOf 25 0) []), (26, .dat (.int .i64)), (27, .own (.int .i64) false), (28, .dat (.int .i64))], [((nameOf 25 0), (.agg (.pair (.slice (.int .u8)) (.pair (.int .i64) (.pair (.int .i64) (.pair (.int .i64) .unit)))))), ((nameOf 5 0), (.agg (.pair (.int .i64) (.pair (.int .i64) (.pair (.int .i64) (.pair (.int .i64) (.pair (.agg (.pair (.int .i64) (.pair (.int .u64) (.pair (.int .u64) .unit)))) (.pair .str (.pair (.slice (.agg (.pair (.int .i64) (.pair (.int .u64) (.pair (.int .u64) .unit))))) (.pair (.slice (.int .i64)) .unit)))))))))), ((nameOf 6 0), (.agg (.pair (.nils (.int .u8)) (.pair (.int .i64) (.pair (.int .i64) (.pair (.int .i64) .unit)))))), ((objName 0), (.agg (.pair (.agg (.pair (.slice (.int .u8)) (.pair (.int .i64) (.pair (.ptr (.agg (.pair (.int .i64) (.pair (.int .i64) .unit)))) .unit)))) .unit)))]⟩)]

noncomputable def sem21 : CSem := orSem sm21 (sm21a)

noncomputable def sg24 : Sig := ⟨[.val (.agg (.pair (.slice (.int .u8)) (.pair (.int .i64) (.pair (.int .i64) (.pair (.int .i64) .unit)))))], [.val (.int .i64), .val (.int .i64)], []⟩
noncomputable def sm24 : CSem := mkSem sg24 fun x => ref07_End x.1
noncomputable def cf24 : Cfg := cf [] 17 0 []

noncomputable def sem24 : CSem := sm24

/-! ### shunter/shunterlaw07.WireReads -/
noncomputable def law07_WireReads_s0 (ops_1_0 : List (Int × Int × Int × Int × (Int × Int × Int × Unit) × (List Int) × (List (Int × Int × Int × Unit)) × (List Int) × Unit)) (i_7_0 : Int) (p23_0_0 : ((List Int) × Int × (Option (Int × Int × Unit)) × Unit) × Unit) (p6_0_0 : (List Int) × Int × Int × Int × Unit) : Option ((((List (Int × Int × Int × Int × (Int × Int × Int × Unit) × (List Int) × (List (Int × Int × Int × Unit)) × (List Int) × Unit)) × Int × Unit) × ((((List Int) × Int × (Option (Int × Int × Unit)) × Unit) × Unit) × ((List Int) × Int × Int × Int × Unit) × Unit)) ⊕ ((Bool × Unit) × (Unit))) :=
  bif (decide (i_7_0 < (ops_1_0.length : Int))) then
    (rdI ops_1_0 i_7_0).bind fun v_9 =>
    (law07_reads_7f6 ((p23_0_0.1.1, p23_0_0.1.2.1, p23_0_0.1.2.2.1, ()), ()) (p6_0_0.1, p6_0_0.2.1, p6_0_0.2.2.1, p6_0_0.2.2.2.1, ()) v_9).bind fun r_10 =>
    guardR (!(!r_10.1.2.1)) (some ()) () fun _ =>
    guardR (!(!r_10.1.2.1)) (wire_Reader_At_59d r_10.2.1) ((0, ()), (([], 0, none, ()), ()), ()) fun r_11 =>
    guardR (!(!r_10.1.2.1)) (some ()) () fun _ =>
    guardR (!(!r_10.1.2.1)) (some r_10.1.1.2.1) 0 fun v_12 =>
    guardR (!(!r_10.1.2.1)) (some (!decide (r_11.1.1 = v_12))) false fun v_13 =>
    let t52_14 : Bool := bif !r_10.1.2.1 then true else v_13
    guardR (!t52_14) (some ()) () fun _ =>
    guardR (!t52_14) (wire_Reader_Left_59d (bif !(!r_10.1.2.1) then r_11.2.1 else r_10.2.1)) ((0, ()), (([], 0, none, ()), ()), ()) fun r_15 =>
    guardR (!t52_14) (some ()) () fun _ =>
    guardR (!t52_14) (some r_10.1.1.1) [] fun v_16 =>
    guardR (!t52_14) (some (v_16.length : Int)) 0 fun v_17 =>
    guardR (!t52_14) (some (!decide (r_15.1.1 = v_17))) false fun v_18 =>
    let t60_19 : Bool := bif t52_14 then true else v_18
    guardR (!t60_19) (some ()) () fun _ =>
    guardR (!t60_19) (wire_Reader_Bad_59d (bif !t52_14 then r_15.2.1 else bif !(!r_10.1.2.1) then r_11.2.1 else r_10.2.1)) ((false, ()), (([], 0, none, ()), ()), ()) fun r_20 =>
    guardR (!t60_19) (some ()) () fun _ =>
    guardR (!t60_19) (some r_10.1.1.2.2.1) 0 fun v_21 =>
    guardR (!t60_19) (some (!decide (v_21 = 0))) false fun v_22 =>
    guardR (!t60_19) (some ()) () fun _ =>
    bif (bif t60_19 then true else (!(decide (r_20.1.1 = v_22)))) then
      some (.inr ((false, ()), ()))
    else
    some (.inl ((ops_1_0, (IntKind.i64.wrap (i_7_0 + 1)), ()), bif !t60_19 then r_20.2.1 else bif !t52_14 then r_15.2.1 else bif !(!r_10.1.2.1) then r_11.2.1 else r_10.2.1, r_10.1.1, ()))
  else
  ((wire_Reader_End_59d ((p23_0_0.1.1, p23_0_0.1.2.1, p23_0_0.1.2.2.1, ()), ())).bind fun r_26 =>
  (wire_Why_8d8 r_26.1.1).bind fun r_27 =>
  (ref07_End (p6_0_0.1, p6_0_0.2.1, p6_0_0.2.2.1, p6_0_0.2.2.2.1, ())).bind fun r_28 =>
  let t82_29 : Bool := decide (r_27.1.1 = r_28.1.1)
  guardR t82_29 (some ()) () fun _ =>
  guardR t82_29 (some ()) () fun _ =>
  guardR t82_29 (some (decide (r_27.1.2.1 = r_28.1.2.1))) false fun v_30 =>
  let t87_31 : Bool := bif t82_29 then v_30 else false
  guardR t87_31 law07_lives ((false, ()), ()) fun r_32 =>
  some (((bif t87_31 then r_32.1.1 else false), ()), ())).map .inr
noncomputable def law07_WireReads (b_0 : List Int) (ops_1 : List (Int × Int × Int × Int × (Int × Int × Int × Unit) × (List Int) × (List (Int × Int × Int × Unit)) × (List Int) × Unit)) : Option ((Bool × Unit) × (Unit)) :=
  let t15_2 : Bool := decide ((b_0.length : Int) > 500)
  guardR (!t15_2) (some ()) () fun _ =>
  guardR (!t15_2) (law07_light ops_1) ((false, ()), ()) fun r_3 =>
  guardR (!t15_2) (some ()) () fun _ =>
  bif (bif t15_2 then true else !r_3.1.1) then
    law07_lives.bind fun r_5 =>
    some ((r_5.1.1, ()), ())
  else
  (wire_Read b_0).bind fun r_6 =>
  loopR (fun (z : ((List (Int × Int × Int × Int × (Int × Int × Int × Unit) × (List Int) × (List (Int × Int × Int × Unit)) × (List Int) × Unit)) × Int × Unit) × ((((List Int) × Int × (Option (Int × Int × Unit)) × Unit) × Unit) × ((List Int) × Int × Int × Int × Unit) × Unit)) => law07_WireReads_s0 z.1.1 z.1.2.1 z.2.1 z.2.2.1) ((ops_1, 0, ()), ((r_6.1.1.1.1, r_6.1.1.1.2.1, none, r_6.1.1.1.2.2.2), r_6.1.1.2), (b_0, 0, 0, 0, ()), ())

noncomputable def sg5 : Sig := ⟨[.val (.slice (.int .u8)), .val (.slice (.agg (.pair (.int .i64) (.pair (.int .i64) (.pair (.int .i64) (.pair (.int .i64) (.pair (.agg (.pair (.int .i64) (.pair (.int .u64) (.pair (.int .u64) .unit)))) (.pair .str (.pair (.slice (.agg (.pair (.int .i64) (.pair (.int .u64) (.pair (.int .u64) .unit))))) (.pair (.slice (.int .i64)) .unit))))))))))], [.val .bool], []⟩
noncomputable def sm5 : CSem := mkSem sg5 fun x => law07_WireReads x.1 x.2.1
noncomputable def cf5 : Cfg := cf [(7, sem7), (8, sem8), (12, sem12), (21, sem21), (22, sem22), (20, sem20), (23, sem23), (19, sem19), (18, sem18), (24, sem24)] 91 0 [(0, ⟨[(1, .dat (.slice (.agg (.pair (.int .i64) (.pair (.int .i64) (.pair (.int .i64) (.pair (.int .i64) (.pair (.agg (.pair (.int .i64) (.pair (.int .u64) (.pair (.int .u64) .unit)))) (.pair .str (.pair (.slice (.agg (.pair (.int .i64) (.pair (.int .u64) (.pair (.int .u64) .unit))))) (.pair (.slice (.int .i64)) .unit))))))))))), (5, .loc (nameOf 23 0) []), (6, .loc (nameOf 6 0) []), (7, .dat (.int .i64))], [((nameOf 23 0), (.agg (.pair (.agg (.pair (.slice (.int .u8)) (.pair (.int .i64) (.pair (.ptr (.agg (.pair (.int .i64) (.pair (.int .i64) .unit)))) .unit)))) .unit))), ((nameOf 6 0), (.agg (.pair (.slice (.int .u8)) (.pair (.int .i64) (.pair (.int .i64) (.pair (.int .i64) .unit))))))]⟩)]

noncomputable def sem5 : CSem := sm5

/-! ### shunter/shunterlaw07.WireBack -/
noncomputable def law07_WireBack_s2 (cut_1_2 : Int) (b_5_2 : List Int) (done_6_2 : List (Int × Int × Int × Int × (Int × Int × Int × Unit) × (List Int) × (List (Int × Int × Int × Unit)) × (List Int) × Unit)) (i_15_2 : Int) (p107_0_2 : ((List Int) × Int × (Option (Int × Int × Unit)) × Unit) × Unit) (p99_0_2 : ((List Int) × Int × (Option (Int × Int × Unit)) × Unit) × Unit) : Option (((Int × (List Int) × (List (Int × Int × Int × Int × (Int × Int × Int × Unit) × (List Int) × (List (Int × Int × Int × Unit)) × (List Int) × Unit)) × Int × Unit) × ((((List Int) × Int × (Option (Int × Int × Unit)) × Unit) × Unit) × (((List Int) × Int × (Option (Int × Int × Unit)) × Unit) × Unit) × Unit)) ⊕ ((Bool × Unit) × (Unit))) :=
  bif (decide (i_15_2 < (done_6_2.length : Int))) then
    (Option.map (fun _ => i_15_2) (ckI i_15_2 done_6_2.length)).bind fun v_47 =>
    (rdI done_6_2 v_47).bind fun v_48 =>
    bif (decide (v_48.1 = 0)) then
      (wire_Reader_Byte_e57 ((p99_0_2.1.1, p99_0_2.1.2.1, p99_0_2.1.2.2.1, ()), ()) 255).bind fun r_50 =>
      (wire_Reader_Byte_e57 ((p107_0_2.1.1, p107_0_2.1.2.1, p107_0_2.1.2.2.1, ()), ()) 255).bind fun r_52 =>
      bif !(decide (r_50.1.1 = v_48.2.1)) then
        some (.inr ((false, ()), ()))
      else
      some (.inl ((cut_1_2, b_5_2, done_6_2, (IntKind.i64.wrap (i_15_2 + 1)), ()), r_52.2.1, r_50.2.1, ()))
    else
    bif (decide (v_48.1 = 1)) then
      (wire_Reader_Two_e57 ((p99_0_2.1.1, p99_0_2.1.2.1, p99_0_2.1.2.2.1, ()), ()) 65535).bind fun r_55 =>
      (wire_Reader_Two_e57 ((p107_0_2.1.1, p107_0_2.1.2.1, p107_0_2.1.2.2.1, ()), ()) 65535).bind fun r_57 =>
      bif !(decide (r_55.1.1 = v_48.2.1)) then
        some (.inr ((false, ()), ()))
      else
      some (.inl ((cut_1_2, b_5_2, done_6_2, (IntKind.i64.wrap (i_15_2 + 1)), ()), r_57.2.1, r_55.2.1, ()))
    else
    bif (decide (v_48.1 = 2)) then
      (wire_Reader_Four_e57 ((p99_0_2.1.1, p99_0_2.1.2.1, p99_0_2.1.2.2.1, ()), ()) 4294967295).bind fun r_60 =>
      (wire_Reader_Four_e57 ((p107_0_2.1.1, p107_0_2.1.2.1, p107_0_2.1.2.2.1, ()), ()) 4294967295).bind fun r_62 =>
      bif !(decide (r_60.1.1 = v_48.2.1)) then
        some (.inr ((false, ()), ()))
      else
      some (.inl ((cut_1_2, b_5_2, done_6_2, (IntKind.i64.wrap (i_15_2 + 1)), ()), r_62.2.1, r_60.2.1, ()))
    else
    bif (decide (v_48.1 = 3)) then
      (wire_Reader_Vec_59d ((p99_0_2.1.1, p99_0_2.1.2.1, p99_0_2.1.2.2.1, ()), ())).bind fun r_65 =>
      (wire_Reader_Vec_59d ((p107_0_2.1.1, p107_0_2.1.2.1, p107_0_2.1.2.2.1, ()), ())).bind fun r_67 =>
      bif !(decide (r_65.1.1.1 = v_48.2.2.2.2.1.1) && (decide (r_65.1.1.2.1 = v_48.2.2.2.2.1.2.1) && decide (r_65.1.1.2.2.1 = v_48.2.2.2.2.1.2.2.1))) then
        some (.inr ((false, ()), ()))
      else
      some (.inl ((cut_1_2, b_5_2, done_6_2, (IntKind.i64.wrap (i_15_2 + 1)), ()), r_67.2.1, r_65.2.1, ()))
    else
    (wire_Reader_Name_59d ((p99_0_2.1.1, p99_0_2.1.2.1, p99_0_2.1.2.2.1, ()), ())).bind fun r_69 =>
    (wire_Reader_Name_59d ((p107_0_2.1.1, p107_0_2.1.2.1, p107_0_2.1.2.2.1, ()), ())).bind fun r_71 =>
    bif !(decide (r_69.1.1 = v_48.2.2.2.2.2.1)) then
      some (.inr ((false, ()), ()))
    else
    some (.inl ((cut_1_2, b_5_2, done_6_2, (IntKind.i64.wrap (i_15_2 + 1)), ()), r_71.2.1, r_69.2.1, ()))
  else
  ((wire_Reader_End_59d ((p107_0_2.1.1, p107_0_2.1.2.1, p107_0_2.1.2.2.1, ()), ())).bind fun r_73 =>
  (wire_Why_8d8 r_73.1.1).bind fun r_74 =>
  let t181_77 : Bool := decide ((maxI 0 cut_1_2) ≥ (b_5_2.length : Int))
  (wire_Reader_End_59d ((p99_0_2.1.1, p99_0_2.1.2.1, p99_0_2.1.2.2.1, ()), ())).bind fun r_78 =>
  let t184_79 : Bool := isNil1 r_78.1.1
  guardR t184_79 (some ()) () fun _ =>
  guardR t184_79 (wire_Reader_Left_59d r_78.2.1) ((0, ()), (([], 0, none, ()), ()), ()) fun r_80 =>
  guardR t184_79 (some (decide (r_80.1.1 = 0))) false fun v_81 =>
  let t189_82 : Bool := bif t184_79 then v_81 else false
  guardR t189_82 (some ()) () fun _ =>
  guardR t189_82 (some (decide (r_74.1.1 = 0))) false fun v_83 =>
  guardR t189_82 (some ()) () fun _ =>
  guardR t189_82 (some ()) () fun _ =>
  let t195_85 : Bool := bif t189_82 then (decide (v_83 = t181_77)) else false
  guardR t195_85 (some ()) () fun _ =>
  guardR t195_85 (some ()) () fun _ =>
  guardR (t195_85 && (!t181_77)) (some ()) () fun _ =>
  guardR (t195_85 && (!t181_77)) (some (decide (r_74.1.1 = 3))) false fun v_86 =>
  guardR t195_85 (some ()) () fun _ =>
  let t202_88 : Bool := bif t195_85 then (bif t181_77 then true else v_86) else false
  guardR t202_88 law07_lives ((false, ()), ()) fun r_89 =>
  some (((bif t202_88 then r_89.1.1 else false), ()), ())).map .inr
noncomputable def law07_WireBack_s0 (ops_0_0 : List (Int × Int × Int × Int × (Int × Int × Int × Unit) × (List Int) × (List (Int × Int × Int × Unit)) × (List Int) × Unit)) (cut_1_0 : Int) (b_5_0 : List Int) (done_6_0 : List (Int × Int × Int × Int × (Int × Int × Int × Unit) × (List Int) × (List (Int × Int × Int × Unit)) × (List Int) × Unit)) (i_7_0 : Int) : Option ((((List (Int × Int × Int × Int × (Int × Int × Int × Unit) × (List Int) × (List (Int × Int × Int × Unit)) × (List Int) × Unit)) × Int × (List Int) × (List (Int × Int × Int × Int × (Int × Int × Int × Unit) × (List Int) × (List (Int × Int × Int × Unit)) × (List Int) × Unit)) × Int × Unit) × (Unit)) ⊕ ((Bool × Unit) × (Unit))) :=
  bif (decide (i_7_0 < (ops_0_0.length : Int))) then
    (rdI ops_0_0 i_7_0).bind fun v_5 =>
    (shlI .i64 1 (IntKind.u64.wrap (maxI 0 (minI v_5.1 2)))).bind fun v_9 =>
    let t45_10 : Bool := decide (v_5.1 ≥ 0)
    guardR t45_10 (some ()) () fun _ =>
    guardR t45_10 (some v_5.1) 0 fun v_11 =>
    guardR t45_10 (some (decide (v_11 ≤ 2))) false fun v_12 =>
    let t50_13 : Bool := bif t45_10 then v_12 else false
    guardR t50_13 (some ()) () fun _ =>
    guardR t50_13 (some v_5.2.1) 0 fun v_14 =>
    guardR t50_13 (some (decide (v_14 ≥ 0))) false fun v_15 =>
    let t55_16 : Bool := bif t50_13 then v_15 else false
    guardR t55_16 (some ()) () fun _ =>
    guardR t55_16 (some v_5.2.1) 0 fun v_17 =>
    guardR t55_16 (some ()) () fun _ =>
    guardR t55_16 (some (IntKind.i64.wrap (8 * v_9))) 0 fun v_18 =>
    guardR t55_16 (some (IntKind.u64.wrap v_18)) 0 fun v_19 =>
    guardR t55_16 (shlI .i64 1 v_19) 0 fun v_20 =>
    guardR t55_16 (some (decide (v_17 < v_20))) false fun v_21 =>
    let t64_22 : Bool := bif t55_16 then v_21 else false
    guardR (!t64_22) (some ()) () fun _ =>
    guardR (!t64_22) (some v_5.1) 0 fun v_23 =>
    guardR (!t64_22) (some (decide (v_23 = 3))) false fun v_24 =>
    guardR (!t64_22) (some ()) () fun _ =>
    guardR ((!t64_22) && v_24) (some ()) () fun _ =>
    guardR ((!t64_22) && v_24) (some v_5.2.2.2.2.1) (0, 0, 0, ()) fun v_25 =>
    guardR ((!t64_22) && v_24) (ref02_May v_25) ((false, ()), ()) fun r_26 =>
    guardR (!t64_22) (some ()) () fun _ =>
    let t74_28 : Bool := bif t64_22 then true else (bif v_24 then r_26.1.1 else false)
    guardR (!t74_28) (some ()) () fun _ =>
    guardR (!t74_28) (some v_5.1) 0 fun v_29 =>
    guardR (!t74_28) (some (decide (v_29 = 4))) false fun v_30 =>
    guardR (!t74_28) (some ()) () fun _ =>
    guardR ((!t74_28) && v_30) (some ()) () fun _ =>
    guardR ((!t74_28) && v_30) (some v_5.2.2.2.2.2.1) [] fun v_31 =>
    guardR ((!t74_28) && v_30) (ref05_May v_31) ((false, ()), ()) fun r_32 =>
    guardR (!t74_28) (some ()) () fun _ =>
    bif !(bif t74_28 then true else (bif v_30 then r_32.1.1 else false)) then
      some (.inl ((ops_0_0, cut_1_0, b_5_0, done_6_0, (IntKind.i64.wrap (i_7_0 + 1)), ()), ()))
    else
    (law07_write b_5_0 (v_5.1, v_5.2.1, 255, 255, v_5.2.2.2.2)).bind fun r_36 =>
    (roomI 120 done_6_0 [(v_5.1, v_5.2.1, 255, 255, v_5.2.2.2.2)]).bind fun v_37 =>
    some (.inl ((ops_0_0, cut_1_0, r_36.1.1, v_37, (IntKind.i64.wrap (i_7_0 + 1)), ()), ()))
  else
  ((wire_Read b_5_0).bind fun r_39 =>
  (subL b_5_0 0 (maxI 0 (minI cut_1_0 (b_5_0.length : Int)))).bind fun v_43 =>
  (wire_Read v_43).bind fun r_44 =>
  loopR (fun (z : (Int × (List Int) × (List (Int × Int × Int × Int × (Int × Int × Int × Unit) × (List Int) × (List (Int × Int × Int × Unit)) × (List Int) × Unit)) × Int × Unit) × ((((List Int) × Int × (Option (Int × Int × Unit)) × Unit) × Unit) × (((List Int) × Int × (Option (Int × Int × Unit)) × Unit) × Unit) × Unit)) => law07_WireBack_s2 z.1.1 z.1.2.1 z.1.2.2.1 z.1.2.2.2.1 z.2.1 z.2.2.1) ((cut_1_0, b_5_0, done_6_0, 0, ()), ((r_44.1.1.1.1, r_44.1.1.1.2.1, none, r_44.1.1.1.2.2.2), r_44.1.1.2), ((r_39.1.1.1.1, r_39.1.1.1.2.1, none, r_39.1.1.1.2.2.2), r_39.1.1.2), ())).map .inr
noncomputable def law07_WireBack (ops_0 : List (Int × Int × Int × Int × (Int × Int × Int × Unit) × (List Int) × (List (Int × Int × Int × Unit)) × (List Int) × Unit)) (cut_1 : Int) : Option ((Bool × Unit) × (Unit)) :=
  (law07_light ops_0).bind fun r_1 =>
  bif !r_1.1.1 then
    law07_lives.bind fun r_2 =>
    some ((r_2.1.1, ()), ())
  else
  loopR (fun (z : ((List (Int × Int × Int × Int × (Int × Int × Int × Unit) × (List Int) × (List (Int × Int × Int × Unit)) × (List Int) × Unit)) × Int × (List Int) × (List (Int × Int × Int × Int × (Int × Int × Int × Unit) × (List Int) × (List (Int × Int × Int × Unit)) × (List Int) × Unit)) × Int × Unit) × (Unit)) => law07_WireBack_s0 z.1.1 z.1.2.1 z.1.2.2.1 z.1.2.2.2.1 z.1.2.2.2.2.1) ((ops_0, cut_1, [], [], 0, ()), ())

noncomputable def sg4 : Sig := ⟨[.val (.slice (.agg (.pair (.int .i64) (.pair (.int .i64) (.pair (.int .i64) (.pair (.int .i64) (.pair (.agg (.pair (.int .i64) (.pair (.int .u64) (.pair (.int .u64) .unit)))) (.pair .str (.pair (.slice (.agg (.pair (.int .i64) (.pair (.int .u64) (.pair (.int .u64) .unit))))) (.pair (.slice (.int .i64)) .unit)))))))))), .val (.int .i64)], [.val .bool], []⟩
noncomputable def sm4 : CSem := mkSem sg4 fun x => law07_WireBack x.1 x.2.1
noncomputable def cf4 : Cfg := cf [(7, sem7), (8, sem8), (10, sem10), (11, sem11), (9, sem9), (12, sem12), (13, sem13), (14, sem14), (15, sem15), (16, sem16), (17, sem17), (19, sem19), (18, sem18), (20, sem20)] 206 0 [(2, ⟨[(1, .dat (.int .i64)), (5, .dat (.slice (.int .u8))), (6, .own (.agg (.pair (.int .i64) (.pair (.int .i64) (.pair (.int .i64) (.pair (.int .i64) (.pair (.agg (.pair (.int .i64) (.pair (.int .u64) (.pair (.int .u64) .unit)))) (.pair .str (.pair (.slice (.agg (.pair (.int .i64) (.pair (.int .u64) (.pair (.int .u64) .unit))))) (.pair (.slice (.int .i64)) .unit))))))))) false), (13, .loc (nameOf 99 0) []), (14, .loc (nameOf 107 0) []), (15, .dat (.int .i64))], [((nameOf 107 0), (.agg (.pair (.agg (.pair (.slice (.int .u8)) (.pair (.int .i64) (.pair (.ptr (.agg (.pair (.int .i64) (.pair (.int .i64) .unit)))) .unit)))) .unit))), ((nameOf 99 0), (.agg (.pair (.agg (.pair (.slice (.int .u8)) (.pair (.int .i64) (.pair (.ptr (.agg (.pair (.int .i64) (.pair (.int .i64) .unit)))) .unit)))) .unit)))]⟩), (0, ⟨[(0, .dat (.slice (.agg (.pair (.int .i64) (.pair (.int .i64) (.pair (.int .i64) (.pair (.int .i64) (.pair (.agg (.pair (.int .i64) (.pair (.int .u64) (.pair (.int .u64) .unit)))) (.pair .str (.pair (.slice (.agg (.pair (.int .i64) (.pair (.int .u64) (.pair (.int .u64) .unit))))) (.pair (.slice (.int .i64)) .unit))))))))))), (1, .dat (.int .i64)), (5, .dat (.slice (.int .u8))), (6, .own (.agg (.pair (.int .i64) (.pair (.int .i64) (.pair (.int .i64) (.pair (.int .i64) (.pair (.agg (.pair (.int .i64) (.pair (.int .u64) (.pair (.int .u64) .unit)))) (.pair .str (.pair (.slice (.agg (.pair (.int .i64) (.pair (.int .u64) (.pair (.int .u64) .unit))))) (.pair (.slice (.int .i64)) .unit))))))))) false), (7, .dat (.int .i64))], []⟩)]

noncomputable def sem4 : CSem := sm4

end Go.Proofs.Ytffgheglileflaa

namespace Go.Proofs.Ytffgheglileflaa
open Go Go.Pv Go.Proofs Go.L
set_option maxRecDepth 100000

theorem r51 (word_Shl : (Int × Int × Unit) → Int → Option (((Int × Int × Unit) × Unit) × (Unit))) (word_Shr : (Int × Int × Unit) → Int → Option (((Int × Int × Unit) × Unit) × (Unit))) (x : ArgT ag51) : runFAM (cf51 word_Shl word_Shr) ag51 al51 (bodyOf Try.f51) [(4, some 91)] x = word_Shl_g word_Shl word_Shr x.1 x.2.1 := by kernel_rfl

theorem r52 (x : ArgT ag52) : runFAM cf52 ag52 al52 (bodyOf Try.f52) [(6, some 30), (7, none)] x = vec_New x.1 x.2.1 x.2.2.1 := by kernel_rfl

theorem r77 (x : ArgT ag77) : runFAM cf77 ag77 al77 (bodyOf Try.f77) [(4, some 77), (5, some 77)] x = ref01_Part x.1 x.2.1 := by kernel_rfl

theorem r27a (x : ArgT sg27a.args) : runFM cf27a sg27a (bodyOf Try.f27) [6] x = wire_Reader_Numbers_395 x.1 x.2.1 x.2.2.1 := by kernel_rfl

theorem r46a (x : ArgT sg46a.args) : runFM cf46a sg46a (bodyOf Try.f46) [6] x = wire_Reader_number_395 x.1 x.2.1 x.2.2.1 := by kernel_rfl

theorem r89 (x : ArgT ag89) : runFAM cf89 ag89 al89 (bodyOf Try.f89) [(4, some 77), (5, none)] x = ref01_Minus x.1 x.2.1 := by kernel_rfl

theorem r57 (x : ArgT ag57) : runFAM cf57 ag57 al57 (bodyOf Try.f57) [(4, some 52), (5, none)] x = ref07_Count x.1 x.2.1 := by kernel_rfl

theorem r58a (x : ArgT sg58a.args) : runFM cf58a sg58a (bodyOf Try.f58) [] x = wire_cursor_fail_ba6 x.1 x.2.1 x.2.2.1 := by kernel_rfl

theorem r27 (x : ArgT sg27.args) : runFM cf27 sg27 (bodyOf Try.f27) [6] x = wire_Reader_Numbers_639 x.1 x.2.1 x.2.2.1 := by kernel_rfl

theorem r56 (x : ArgT ag56) : runFAM cf56 ag56 al56 (bodyOf Try.f56) [(2, some 52), (3, none)] x = ref07_TakeName x.1 := by kernel_rfl

theorem r46 (x : ArgT sg46.args) : runFM cf46 sg46 (bodyOf Try.f46) [6] x = wire_Reader_number_639 x.1 x.2.1 x.2.2.1 := by kernel_rfl

theorem r16a (x : ArgT ag16a) : runFAM cf16a ag16a al16a (bodyOf Try.f16) [(2, some 30)] x = wire_Reader_Vec_316 x.1 := by kernel_rfl

theorem r73 (x : ArgT ag73) : runFAM cf73 ag73 al73 (bodyOf Try.f73) [(6, some 52)] x = ref07_fail x.1 x.2.1 x.2.2.1 := by kernel_rfl

theorem r58 (x : ArgT sg58.args) : runFM cf58 sg58 (bodyOf Try.f58) [] x = wire_cursor_fail_36a x.1 x.2.1 x.2.2.1 := by kernel_rfl

theorem r47 (x : ArgT sg47.args) : runFM cf47 sg47 (bodyOf Try.f47) [] x = wire_Reader_back_28a x.1 x.2.1 x.2.2.1 := by kernel_rfl

theorem r16 (x : ArgT ag16) : runFAM cf16 ag16 al16 (bodyOf Try.f16) [(2, some 30)] x = wire_Reader_Vec_d35 x.1 := by kernel_rfl

theorem r59a (x : ArgT sg59a.args) : runFM cf59a sg59a (bodyOf Try.f59) [4] x = wire_Reader_count_e57 x.1 x.2.1 := by kernel_rfl

theorem r13b (x : ArgT sg13b.args) : runFM cf13b sg13b (bodyOf Try.f13) [4] x = wire_Reader_Byte_e57 x.1 x.2.1 := by kernel_rfl

theorem r26a (x : ArgT sg26a.args) : runFM cf26a sg26a (bodyOf Try.f26) [4] x = wire_Reader_Vecs_db0 x.1 x.2.1 := by kernel_rfl

theorem r25a (x : ArgT sg25a.args) : runFM cf25a sg25a (bodyOf Try.f25) [] x = wire_Reader_Fail_e57 x.1 x.2.1 := by kernel_rfl

theorem r48 (x : ArgT sg48.args) : runFM cf48 sg48 (bodyOf Try.f48) [4, 5] x = wire_cursor_take_1ca x.1 x.2.1 := by kernel_rfl

theorem r87 (x : ArgT ag87) : runFAM cf87 ag87 al87 (bodyOf Try.f87) [(4, some 77)] x = ref01_Moved x.1 x.2.1 := by kernel_rfl

theorem r25 (x : ArgT sg25.args) : runFM cf25 sg25 (bodyOf Try.f25) [] x = wire_Reader_Fail_d6c x.1 x.2.1 := by kernel_rfl

theorem r20a (x : ArgT sg20a.args) : runFM cf20a sg20a (bodyOf Try.f20) [2] x = wire_Reader_Left_59d x.1 := by kernel_rfl

theorem r28a (x : ArgT sg28a.args) : runFM cf28a sg28a (bodyOf Try.f28) [2] x = wire_Fault_Error_bca x.1 := by kernel_rfl

theorem r23a (x : ArgT sg23a.args) : runFM cf23a sg23a (bodyOf Try.f23) [2] x = wire_Reader_Bad_59d x.1 := by kernel_rfl

theorem r78 (x : ArgT ag78) : runFAM cf78 ag78 al78 (bodyOf Try.f78) [(2, some 77)] x = ref01_small x.1 := by kernel_rfl

theorem r63 (x : ArgT sg63.args) : runFM cf63 sg63 (bodyOf Try.f63) [6] x = wire_put x.1 x.2.1 x.2.2.1 := by kernel_rfl

theorem r28 (x : ArgT sg28.args) : runFM cf28 sg28 (bodyOf Try.f28) [2] x = wire_Fault_Error_d35 x.1 := by kernel_rfl

theorem r23 (x : ArgT sg23.args) : runFM cf23 sg23 (bodyOf Try.f23) [2] x = wire_Reader_Bad_d35 x.1 := by kernel_rfl

theorem r19 (x : ArgT sg19.args) : runFM cf19 sg19 (bodyOf Try.f19) [2] x = wire_Reader_End_d35 x.1 := by kernel_rfl

theorem r33 (x : ArgT sg33.args) : runFM cf33 sg33 (bodyOf Try.f33) [4] x = ref07_Number x.1 x.2.1 := by kernel_rfl

theorem r88 (x : ArgT sg88.args) : runFM cf88 sg88 (bodyOf Try.f88) [4] x = ref01_Less x.1 x.2.1 := by kernel_rfl

theorem r32 (x : ArgT sg32.args) : runFM cf32 sg32 (bodyOf Try.f32) [4] x = wire_Byte x.1 x.2.1 := by kernel_rfl

theorem r35 (x : ArgT sg35.args) : runFM cf35 sg35 (bodyOf Try.f35) [4] x = wire_Four x.1 x.2.1 := by kernel_rfl

theorem r39 (x : ArgT sg39.args) : runFM cf39 sg39 (bodyOf Try.f39) [4] x = wire_Vecs x.1 x.2.1 := by kernel_rfl

theorem r18 (x : ArgT sg18.args) : runFM cf18 sg18 (bodyOf Try.f18) [2, 3] x = wire_Why_8d8 x.1 := by kernel_rfl

theorem r76 (x : ArgT sg76.args) : runFM cf76 sg76 (bodyOf Try.f76) [4] x = word_Text x.1 x.2.1 := by kernel_rfl

theorem r4 (x : ArgT sg4.args) : runFM cf4 sg4 (bodyOf Try.f4) [4] x = law07_WireBack x.1 x.2.1 := by kernel_rfl

theorem r10 (x : ArgT sg10.args) : runFM cf10 sg10 (bodyOf Try.f10) [2] x = ref02_May x.1 := by kernel_rfl

theorem r80 (x : ArgT sg80.args) : runFM cf80 sg80 (bodyOf Try.f80) [2] x = word_Len x.1 := by kernel_rfl

theorem r68 (x : ArgT sg68.args) : runFM cf68 sg68 (bodyOf Try.f68) [2] x = ref03_Of x.1 := by kernel_rfl

theorem r62 (x : ArgT sg62.args) : runFM cf62 sg62 (bodyOf Try.f62) [2] x = vec_May x.1 := by kernel_rfl

theorem r7 (x : ArgT sg7.args) : runFM cf7 sg7 (bodyOf Try.f7) [2] x = law07_light x.1 := by kernel_rfl

end Go.Proofs.Ytffgheglileflaa

namespace Go.Proofs.Ytffgheglileflaa
open Go Go.Pv Go.Proofs Go.L
set_option maxRecDepth 100000

theorem r64 (word_Shl : (Int × Int × Unit) → Int → Option (((Int × Int × Unit) × Unit) × (Unit))) (word_Shr : (Int × Int × Unit) → Int → Option (((Int × Int × Unit) × Unit) × (Unit))) (x : ArgT ag64) : runFAM (cf64 word_Shl word_Shr) ag64 al64 (bodyOf Try.f64) [(4, some 91)] x = word_Shr_g word_Shl word_Shr x.1 x.2.1 := by kernel_rfl

theorem r86 (x : ArgT ag86) : runFAM cf86 ag86 al86 (bodyOf Try.f86) [(4, some 91), (5, none), (6, none)] x = word_Div x.1 x.2.1 := by kernel_rfl

theorem r54 (x : ArgT ag54) : runFAM cf54 ag54 al54 (bodyOf Try.f54) [(6, some 52), (7, none)] x = ref07_Take x.1 x.2.1 x.2.2.1 := by kernel_rfl

theorem r92 (x : ArgT ag92) : runFAM cf92 ag92 al92 (bodyOf Try.f92) [(6, some 77), (7, none)] x = ref01_Sum x.1 x.2.1 x.2.2.1 := by kernel_rfl

theorem r27b (x : ArgT sg27b.args) : runFM cf27b sg27b (bodyOf Try.f27) [6] x = wire_Reader_Numbers_28a x.1 x.2.1 x.2.2.1 := by kernel_rfl

theorem r46b (x : ArgT sg46b.args) : runFM cf46b sg46b (bodyOf Try.f46) [6] x = wire_Reader_number_28a x.1 x.2.1 x.2.2.1 := by kernel_rfl

theorem r55 (x : ArgT ag55) : runFAM cf55 ag55 al55 (bodyOf Try.f55) [(2, some 52), (3, some 30)] x = ref07_TakeVec x.1 := by kernel_rfl

theorem r16b (x : ArgT ag16b) : runFAM cf16b ag16b al16b (bodyOf Try.f16) [(2, some 30)] x = wire_Reader_Vec_59d x.1 := by kernel_rfl

theorem r48a (x : ArgT sg48a.args) : runFM cf48a sg48a (bodyOf Try.f48) [4, 5] x = wire_cursor_take_c4f x.1 x.2.1 := by kernel_rfl

theorem r13a (x : ArgT sg13a.args) : runFM cf13a sg13a (bodyOf Try.f13) [4] x = wire_Reader_Byte_db0 x.1 x.2.1 := by kernel_rfl

theorem r15a (x : ArgT sg15a.args) : runFM cf15a sg15a (bodyOf Try.f15) [4] x = wire_Reader_Four_db0 x.1 x.2.1 := by kernel_rfl

theorem r15b (x : ArgT sg15b.args) : runFM cf15b sg15b (bodyOf Try.f15) [4] x = wire_Reader_Four_e57 x.1 x.2.1 := by kernel_rfl

theorem r26b (x : ArgT sg26b.args) : runFM cf26b sg26b (bodyOf Try.f26) [4] x = wire_Reader_Vecs_e57 x.1 x.2.1 := by kernel_rfl

theorem r14a (x : ArgT sg14a.args) : runFM cf14a sg14a (bodyOf Try.f14) [4] x = wire_Reader_Two_db0 x.1 x.2.1 := by kernel_rfl

theorem r14b (x : ArgT sg14b.args) : runFM cf14b sg14b (bodyOf Try.f14) [4] x = wire_Reader_Two_e57 x.1 x.2.1 := by kernel_rfl

theorem r59 (x : ArgT sg59.args) : runFM cf59 sg59 (bodyOf Try.f59) [4] x = wire_Reader_count_db0 x.1 x.2.1 := by kernel_rfl

theorem r91 (x : ArgT sg91.args) : runFM cf91 sg91 (bodyOf Try.f91) [6, 7] x = bits_Div64 x.1 x.2.1 x.2.2.1 := by kernel_rfl

theorem r61 (x : ArgT sg61.args) : runFM cf61 sg61 (bodyOf Try.f61) [4] x = ref01_Text x.1 x.2.1 := by kernel_rfl

theorem r37 (x : ArgT sg37.args) : runFM cf37 sg37 (bodyOf Try.f37) [4] x = wire_Name x.1 x.2.1 := by kernel_rfl

theorem r9 (x : ArgT sg9.args) : runFM cf9 sg9 (bodyOf Try.f9) [4, 5] x = law07_write x.1 x.2.1 := by kernel_rfl

theorem r34 (x : ArgT sg34.args) : runFM cf34 sg34 (bodyOf Try.f34) [4] x = wire_Two x.1 x.2.1 := by kernel_rfl

theorem r69 (x : ArgT sg69.args) : runFM cf69 sg69 (bodyOf Try.f69) [2, 3] x = ref05_First x.1 := by kernel_rfl

theorem r38 (x : ArgT sg38.args) : runFM cf38 sg38 (bodyOf Try.f38) [2] x = ref07_Name x.1 := by kernel_rfl

theorem r75 (x : ArgT sg75.args) : runFM cf75 sg75 (bodyOf Try.f75) [2] x = ref03_Bits x.1 := by kernel_rfl

theorem r36 (x : ArgT sg36.args) : runFM cf36 sg36 (bodyOf Try.f36) [2] x = ref07_Vec x.1 := by kernel_rfl

theorem r53 (x : ArgT sg53.args) : runFM cf53 sg53 (bodyOf Try.f53) [2] x = name_May x.1 := by kernel_rfl

theorem r8 (x : ArgT sg8.args) : runFM cf8 sg8 (bodyOf Try.f8) [0] x = law07_lives := by kernel_rfl

end Go.Proofs.Ytffgheglileflaa

namespace Go.Proofs.Ytffgheglileflaa
open Go Go.Pv Go.Proofs Go.L
set_option maxRecDepth 100000

theorem r21a (x : ArgT ag21a) : runFAM cf21a ag21a al21a (bodyOf Try.f21) [(6, some 52), (7, none)] x = law07_reads_7f6 x.1 x.2.1 x.2.2.1 := by kernel_rfl

theorem r13 (x : ArgT sg13.args) : runFM cf13 sg13 (bodyOf Try.f13) [4] x = wire_Reader_Byte_d6c x.1 x.2.1 := by kernel_rfl

theorem r15 (x : ArgT sg15.args) : runFM cf15 sg15 (bodyOf Try.f15) [4] x = wire_Reader_Four_d6c x.1 x.2.1 := by kernel_rfl

theorem r83 (x : ArgT sg83.args) : runFM cf83 sg83 (bodyOf Try.f83) [6] x = name_between x.1 x.2.1 x.2.2.1 := by kernel_rfl

theorem r26 (x : ArgT sg26.args) : runFM cf26 sg26 (bodyOf Try.f26) [4] x = wire_Reader_Vecs_d6c x.1 x.2.1 := by kernel_rfl

theorem r14 (x : ArgT sg14.args) : runFM cf14 sg14 (bodyOf Try.f14) [4] x = wire_Reader_Two_d6c x.1 x.2.1 := by kernel_rfl

theorem r17a (x : ArgT sg17a.args) : runFM cf17a sg17a (bodyOf Try.f17) [2] x = wire_Reader_Name_316 x.1 := by kernel_rfl

theorem r93 (x : ArgT ag93) : runFAM cf93 ag93 al93 (bodyOf Try.f93) [(2, some 77)] x = ref01_Turned x.1 := by kernel_rfl

theorem r81 (x : ArgT sg81.args) : runFM cf81 sg81 (bodyOf Try.f81) [2] x = slices_Clip_byte_byte x.1 := by kernel_rfl

theorem r65 (x : ArgT ag65) : runFAM cf65 ag65 al65 (bodyOf Try.f65) [(2, some 91)] x = vec_Word x.1 := by kernel_rfl

theorem r20 (x : ArgT sg20.args) : runFM cf20 sg20 (bodyOf Try.f20) [2] x = wire_Reader_Left_d35 x.1 := by kernel_rfl

theorem r17 (x : ArgT sg17.args) : runFM cf17 sg17 (bodyOf Try.f17) [2] x = wire_Reader_Name_d35 x.1 := by kernel_rfl

theorem r84 (x : ArgT ag84) : runFAM cf84 ag84 al84 (bodyOf Try.f84) [(2, some 30)] x = ref02_Of x.1 := by kernel_rfl

theorem r22 (x : ArgT sg22.args) : runFM cf22 sg22 (bodyOf Try.f22) [2] x = wire_Reader_At_d35 x.1 := by kernel_rfl

theorem r6 (x : ArgT sg6.args) : runFM cf6 sg6 (bodyOf Try.f6) [4] x = law07_WireFaults x.1 x.2.1 := by kernel_rfl

theorem r24 (x : ArgT sg24.args) : runFM cf24 sg24 (bodyOf Try.f24) [2, 3] x = ref07_End x.1 := by kernel_rfl

theorem r45 (x : ArgT sg45.args) : runFM cf45 sg45 (bodyOf Try.f45) [2] x = bytes_Clone x.1 := by kernel_rfl

theorem r67 (x : ArgT sg67.args) : runFM cf67 sg67 (bodyOf Try.f67) [2] x = ref03_Bytes x.1 := by kernel_rfl

theorem r71 (x : ArgT sg71.args) : runFM cf71 sg71 (bodyOf Try.f71) [2] x = name_Letter x.1 := by kernel_rfl

theorem r43 (x : ArgT sg43.args) : runFM cf43 sg43 (bodyOf Try.f43) [2] x = ref05_Runes x.1 := by kernel_rfl

theorem r66 (x : ArgT sg66.args) : runFM cf66 sg66 (bodyOf Try.f66) [2] x = ref02_Bits x.1 := by kernel_rfl

theorem r72 (x : ArgT sg72.args) : runFM cf72 sg72 (bodyOf Try.f72) [2] x = name_Digit x.1 := by kernel_rfl

theorem r85 (x : ArgT sg85.args) : runFM cf85 sg85 (bodyOf Try.f85) [2] x = word_based x.1 := by kernel_rfl

theorem r82 (x : ArgT sg82.args) : runFM cf82 sg82 (bodyOf Try.f82) [2] x = ref05_more x.1 := by kernel_rfl

theorem r70 (x : ArgT sg70.args) : runFM cf70 sg70 (bodyOf Try.f70) [2] x = vec_width x.1 := by kernel_rfl

theorem r49 (x : ArgT sg49.args) : runFM cf49 sg49 (bodyOf Try.f49) [2] x = wire_room x.1 := by kernel_rfl

theorem r41 (x : ArgT sg41.args) : runFM cf41 sg41 (bodyOf Try.f41) [2] x = ref01_Len x.1 := by kernel_rfl

theorem r12 (x : ArgT sg12.args) : runFM cf12 sg12 (bodyOf Try.f12) [2] x = wire_Read x.1 := by kernel_rfl

theorem r11 (x : ArgT sg11.args) : runFM cf11 sg11 (bodyOf Try.f11) [2] x = ref05_May x.1 := by kernel_rfl

end Go.Proofs.Ytffgheglileflaa

namespace Go.Proofs.Ytffgheglileflaa
open Go Go.Pv Go.Proofs Go.L
set_option maxRecDepth 100000

theorem r21 (x : ArgT ag21) : runFAM cf21 ag21 al21 (bodyOf Try.f21) [(6, some 52), (7, none)] x = law07_reads_1d4 x.1 x.2.1 x.2.2.1 := by kernel_rfl

theorem r42 (x : ArgT ag42) : runFAM cf42 ag42 al42 (bodyOf Try.f42) [(4, some 77)] x = ref01_Of x.1 x.2.1 := by kernel_rfl

theorem r50 (x : ArgT ag50) : runFAM cf50 ag50 al50 (bodyOf Try.f50) [(4, some 91)] x = word_Or x.1 x.2.1 := by kernel_rfl

theorem r17b (x : ArgT sg17b.args) : runFM cf17b sg17b (bodyOf Try.f17) [2] x = wire_Reader_Name_59d x.1 := by kernel_rfl

theorem r19a (x : ArgT sg19a.args) : runFM cf19a sg19a (bodyOf Try.f19) [2] x = wire_Reader_End_59d x.1 := by kernel_rfl

theorem r22a (x : ArgT sg22a.args) : runFM cf22a sg22a (bodyOf Try.f22) [2] x = wire_Reader_At_59d x.1 := by kernel_rfl

theorem r74 (x : ArgT ag74) : runFAM cf74 ag74 al74 (bodyOf Try.f74) [(2, some 30)] x = ref03_Vec x.1 := by kernel_rfl

theorem r94 (x : ArgT sg94.args) : runFM cf94 sg94 (bodyOf Try.f94) [2] x = bits_LeadingZeros64 x.1 := by kernel_rfl

theorem r40 (x : ArgT sg40.args) : runFM cf40 sg40 (bodyOf Try.f40) [4] x = wire_Numbers x.1 x.2.1 := by kernel_rfl

theorem r5 (x : ArgT sg5.args) : runFM cf5 sg5 (bodyOf Try.f5) [4] x = law07_WireReads x.1 x.2.1 := by kernel_rfl

theorem r79 (x : ArgT sg79.args) : runFM cf79 sg79 (bodyOf Try.f79) [2, 3] x = ref01_Halves x.1 := by kernel_rfl

theorem r31 (x : ArgT sg31.args) : runFM cf31 sg31 (bodyOf Try.f31) [4] x = wire_Vec x.1 x.2.1 := by kernel_rfl

theorem r30 (x : ArgT sg30.args) : runFM cf30 sg30 (bodyOf Try.f30) [2] x = wire_Only_8d8 x.1 := by kernel_rfl

theorem r29 (x : ArgT sg29.args) : runFM cf29 sg29 (bodyOf Try.f29) [2] x = law07_digits x.1 := by kernel_rfl

theorem r44 (x : ArgT sg44.args) : runFM cf44 sg44 (bodyOf Try.f44) [2] x = ref05_Letter x.1 := by kernel_rfl

theorem r3 (x : ArgT sg3.args) : runFM cf3 sg3 (bodyOf Try.f3) [2] x = law07_WireWrites x.1 := by kernel_rfl

theorem r60 (x : ArgT sg60.args) : runFM cf60 sg60 (bodyOf Try.f60) [2] x = wire_digits x.1 := by kernel_rfl

theorem r90 (x : ArgT sg90.args) : runFM cf90 sg90 (bodyOf Try.f90) [2] x = bits_Len64 x.1 := by kernel_rfl

end Go.Proofs.Ytffgheglileflaa
