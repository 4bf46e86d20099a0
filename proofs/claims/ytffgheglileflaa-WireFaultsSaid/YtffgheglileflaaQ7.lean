/- The functions of this seat, and the laws as plain Lean. -/
import Derived.Test.YtffgheglileflaaProg
import Derived.Test.YtffgheglileflaaQ6

namespace Go.Proofs.Ytffgheglileflaa
open Go Go.Pv Go.Proofs Go.L
set_option maxRecDepth 100000

noncomputable def bodyOf (f : Func) : Code := match f.body with | some c => c | none => .skip
noncomputable def cf (tab : List (Nat × CSem)) (nt nob : Nat) (ann : List (Nat × Shape)) : Cfg := ⟨Try.prog, fun f => lk f tab, nt, nob, fun n => lk n ann⟩
def Tab (tab : List (Nat × CSem)) : Prop := ∀ q ∈ tab, Contract Try.prog q.1 q.2
theorem Tab.nil : Tab [] := fun q h => by cases h
theorem Tab.cons {f : Nat} {sem : CSem} {l : List (Nat × CSem)} (h : Contract Try.prog f sem) (t : Tab l) : Tab ((f, sem) :: l) := fun q hq => by
  rcases List.mem_cons.1 hq with rfl | hq
  · exact h
  · exact t q hq

/-! ### shunter/shunterlaw07.light -/
noncomputable def law07_light_s0 (ops_0_0 : List (Int × Int × Int × Int × (Int × Int × Int × Unit) × (List Int) × (List (Int × Int × Int × Unit)) × (List Int) × Unit)) (i_3_0 : Int) : Option ((((List (Int × Int × Int × Int × (Int × Int × Int × Unit) × (List Int) × (List (Int × Int × Int × Unit)) × (List Int) × Unit)) × Int × Unit) × (Unit)) ⊕ ((Bool × Unit) × (Unit))) :=
  bif (decide (i_3_0 < (ops_0_0.length : Int))) then
    (rdI ops_0_0 i_3_0).bind fun v_5 =>
    let t19_7 : Bool := decide ((v_5.2.2.2.2.2.2.1.length : Int) > 300)
    guardR (!t19_7) (some ()) () fun _ =>
    guardR (!t19_7) (some ()) () fun _ =>
    guardR (!t19_7) (rdI ops_0_0 i_3_0) (0, 0, 0, 0, (0, 0, 0, ()), [], [], [], ()) fun v_8 =>
    guardR (!t19_7) (some v_8.2.2.2.2.2.2.2.1) [] fun v_9 =>
    guardR (!t19_7) (some ()) () fun _ =>
    guardR (!t19_7) (some (v_9.length : Int)) 0 fun v_10 =>
    guardR (!t19_7) (some (decide (v_10 > 300))) false fun v_11 =>
    let t28_12 : Bool := bif t19_7 then true else v_11
    guardR (!t28_12) (some ()) () fun _ =>
    guardR (!t28_12) (some ()) () fun _ =>
    guardR (!t28_12) (rdI ops_0_0 i_3_0) (0, 0, 0, 0, (0, 0, 0, ()), [], [], [], ()) fun v_13 =>
    guardR (!t28_12) (some v_13.2.2.2.2.2.1) [] fun v_14 =>
    guardR (!t28_12) (some ()) () fun _ =>
    guardR (!t28_12) (some (v_14.length : Int)) 0 fun v_15 =>
    guardR (!t28_12) (some (decide (v_15 > 600))) false fun v_16 =>
    bif (bif t28_12 then true else v_16) then
      some (.inr ((false, ()), ()))
    else
    some (.inl ((ops_0_0, (IntKind.i64.wrap (i_3_0 + 1)), ()), ()))
  else
  some (.inr ((true, ()), ()))
noncomputable def law07_light (ops_0 : List (Int × Int × Int × Int × (Int × Int × Int × Unit) × (List Int) × (List (Int × Int × Int × Unit)) × (List Int) × Unit)) : Option ((Bool × Unit) × (Unit)) :=
  bif (decide ((ops_0.length : Int) > 30)) then
    some ((false, ()), ())
  else
  loopR (fun (z : ((List (Int × Int × Int × Int × (Int × Int × Int × Unit) × (List Int) × (List (Int × Int × Int × Unit)) × (List Int) × Unit)) × Int × Unit) × (Unit)) => law07_light_s0 z.1.1 z.1.2.1) ((ops_0, 0, ()), ())

noncomputable def sg7 : Sig := ⟨[.val (.slice (.agg (.pair (.int .i64) (.pair (.int .i64) (.pair (.int .i64) (.pair (.int .i64) (.pair (.agg (.pair (.int .i64) (.pair (.int .u64) (.pair (.int .u64) .unit)))) (.pair .str (.pair (.slice (.agg (.pair (.int .i64) (.pair (.int .u64) (.pair (.int .u64) .unit))))) (.pair (.slice (.int .i64)) .unit))))))))))], [.val .bool], []⟩
noncomputable def sm7 : CSem := mkSem sg7 fun x => law07_light x.1
noncomputable def cf7 : Cfg := cf [] 38 0 [(0, ⟨[(0, .dat (.slice (.agg (.pair (.int .i64) (.pair (.int .i64) (.pair (.int .i64) (.pair (.int .i64) (.pair (.agg (.pair (.int .i64) (.pair (.int .u64) (.pair (.int .u64) .unit)))) (.pair .str (.pair (.slice (.agg (.pair (.int .i64) (.pair (.int .u64) (.pair (.int .u64) .unit))))) (.pair (.slice (.int .i64)) .unit))))))))))), (3, .dat (.int .i64))], []⟩)]

noncomputable def sem7 : CSem := sm7

noncomputable def sg70 : Sig := ⟨[.val (.int .i64)], [.val .bool], []⟩
noncomputable def sm70 : CSem := mkSem sg70 fun x => vec_width x.1
noncomputable def cf70 : Cfg := cf [] 9 0 []

noncomputable def sem70 : CSem := sm70

noncomputable def ag65 : List AK := [.val (.agg (.pair (.int .i64) (.pair (.int .u64) (.pair (.int .u64) .unit))))]
noncomputable def al65 : List Alt := [([.val (.agg (.pair (.int .u64) (.pair (.int .u64) .unit)))], [])]
noncomputable def sm65 : CSem := mkSemA ag65 al65 fun x => vec_Word x.1
noncomputable def cf65 : Cfg := cf [] 8 0 []

noncomputable def sem65 : CSem := sm65

noncomputable def sg90 : Sig := ⟨[.val (.int .u64)], [.val (.int .i64)], []⟩
noncomputable def sm90 : CSem := mkSem sg90 fun x => bits_Len64 x.1
noncomputable def cf90 : Cfg := cf [] 25 0 []

noncomputable def sem90 : CSem := sm90

noncomputable def sg80 : Sig := ⟨[.val (.agg (.pair (.int .u64) (.pair (.int .u64) .unit)))], [.val (.int .i64)], []⟩
noncomputable def sm80 : CSem := mkSem sg80 fun x => word_Len x.1
noncomputable def cf80 : Cfg := cf [(90, sem90)] 13 0 []

noncomputable def sem80 : CSem := sm80

noncomputable def sg62 : Sig := ⟨[.val (.agg (.pair (.int .i64) (.pair (.int .u64) (.pair (.int .u64) .unit))))], [.val .bool], []⟩
noncomputable def sm62 : CSem := mkSem sg62 fun x => vec_May x.1
noncomputable def cf62 : Cfg := cf [(70, sem70), (65, sem65), (80, sem80)] 14 0 []

noncomputable def sem62 : CSem := sm62

noncomputable def sg45 : Sig := ⟨[.val (.slice (.int .u8))], [.own (.own (.int .u8))], []⟩
noncomputable def sm45 : CSem := mkSem sg45 fun x => bytes_Clone x.1
noncomputable def cf45 : Cfg := cf [] 8 0 []

noncomputable def sem45 : CSem := sm45

noncomputable def sg81 : Sig := ⟨[.val (.slice (.int .u8))], [.own (.app (.int .u8))], []⟩
noncomputable def sm81 : CSem := mkSem sg81 fun x => slices_Clip_byte_byte x.1
noncomputable def cf81 : Cfg := cf [] 9 0 []

noncomputable def sem81 : CSem := sm81

noncomputable def sg63 : Sig := ⟨[.val (.slice (.int .u8)), .val (.int .i64), .val (.int .i64)], [.own (.app (.int .u8))], []⟩
noncomputable def sm63 : CSem := mkSem sg63 fun x => wire_put x.1 x.2.1 x.2.2.1
noncomputable def cf63 : Cfg := cf [(45, sem45), (81, sem81)] 29 0 [(0, ⟨[(1, .dat (.int .i64)), (2, .dat (.int .i64)), (7, .own (.int .u8) true), (12, .dat (.int .i64)), (13, .dat (.int .i64))], []⟩)]

noncomputable def sem63 : CSem := sm63

noncomputable def sg49 : Sig := ⟨[.val (.int .i64)], [.val (.int .i64)], []⟩
noncomputable def sm49 : CSem := mkSem sg49 fun x => wire_room x.1
noncomputable def cf49 : Cfg := cf [] 7 0 []

noncomputable def sem49 : CSem := sm49

noncomputable def ag51 : List AK := [.val (.agg (.pair (.int .u64) (.pair (.int .u64) .unit))), .val (.int .i64)]
noncomputable def al51 : List Alt := [([.val (.agg (.pair (.int .u64) (.pair (.int .u64) .unit)))], [])]
noncomputable def sm51 (word_Shl : (Int × Int × Unit) → Int → Option (((Int × Int × Unit) × Unit) × (Unit))) : CSem := mkSemA ag51 al51 fun x => word_Shl x.1 x.2.1
noncomputable def ag64 : List AK := [.val (.agg (.pair (.int .u64) (.pair (.int .u64) .unit))), .val (.int .i64)]
noncomputable def al64 : List Alt := [([.val (.agg (.pair (.int .u64) (.pair (.int .u64) .unit)))], [])]
noncomputable def sm64 (word_Shr : (Int × Int × Unit) → Int → Option (((Int × Int × Unit) × Unit) × (Unit))) : CSem := mkSemA ag64 al64 fun x => word_Shr x.1 x.2.1
noncomputable def cf51 (word_Shl : (Int × Int × Unit) → Int → Option (((Int × Int × Unit) × Unit) × (Unit))) (word_Shr : (Int × Int × Unit) → Int → Option (((Int × Int × Unit) × Unit) × (Unit))) : Cfg := cf [(64, sm64 word_Shr)] 48 0 []
noncomputable def cf64 (word_Shl : (Int × Int × Unit) → Int → Option (((Int × Int × Unit) × Unit) × (Unit))) (word_Shr : (Int × Int × Unit) → Int → Option (((Int × Int × Unit) × Unit) × (Unit))) : Cfg := cf [(51, sm51 word_Shl)] 48 0 []

noncomputable def sem51 : CSem := (sm51 word_Shl)

noncomputable def sem64 : CSem := (sm64 word_Shr)

noncomputable def sg31 : Sig := ⟨[.val (.slice (.int .u8)), .val (.agg (.pair (.int .i64) (.pair (.int .u64) (.pair (.int .u64) .unit))))], [.own (.app (.int .u8))], []⟩
noncomputable def sm31 : CSem := mkSem sg31 fun x => wire_Vec x.1 x.2.1
noncomputable def cf31 : Cfg := cf [(62, sem62), (63, sem63), (49, sem49), (65, sem65), (64, sem64)] 35 0 [(0, ⟨[(3, .loc (nameOf 3 0) []), (5, .own (.int .u8) true), (6, .dat (.int .i64))], [((nameOf 3 0), (.agg (.pair (.int .i64) (.pair (.int .u64) (.pair (.int .u64) .unit)))))]⟩)]

noncomputable def sem31 : CSem := sm31

/-! ### shunter/shunterlaw07.lives -/
noncomputable def law07_lives : Option ((Bool × Unit) × (Unit)) :=
  (wire_Vec [] (12, 0, 2748, ())).bind fun r_1 =>
  some (((decide (r_1.1.1 = [12, 10, 188])), ()), ())

noncomputable def sg8 : Sig := ⟨[], [.val .bool], []⟩
noncomputable def sm8 : CSem := mkSem sg8 fun x => law07_lives
noncomputable def cf8 : Cfg := cf [(31, sem31)] 7 0 []

noncomputable def sem8 : CSem := sm8

noncomputable def sg32 : Sig := ⟨[.val (.slice (.int .u8)), .val (.int .i64)], [.own (.app (.int .u8))], []⟩
noncomputable def sm32 : CSem := mkSem sg32 fun x => wire_Byte x.1 x.2.1
noncomputable def cf32 : Cfg := cf [(63, sem63)] 8 0 []

noncomputable def sem32 : CSem := sm32

noncomputable def ag42 : List AK := [.val (.int .u64), .val (.int .u64)]
noncomputable def al42 : List Alt := [([.val (.agg (.arr 128 .bool))], [])]
noncomputable def sm42 : CSem := mkSemA ag42 al42 fun x => ref01_Of x.1 x.2.1
noncomputable def cf42 : Cfg := cf [] 27 0 [(0, ⟨[(0, .dat (.int .u64)), (1, .dat (.int .u64)), (4, .loc (nameOf 4 0) []), (5, .loc (nameOf 5 0) []), (6, .dat (.int .i64))], [((nameOf 4 0), (.agg (.arr 128 .bool))), ((nameOf 5 0), (.agg (.arr 128 .bool)))]⟩)]

noncomputable def sem42 : CSem := sm42

noncomputable def sg66 : Sig := ⟨[.val (.agg (.pair (.int .i64) (.pair (.int .u64) (.pair (.int .u64) .unit))))], [.own (.own .bool)], []⟩
noncomputable def sm66 : CSem := mkSem sg66 fun x => ref02_Bits x.1
noncomputable def cf66 : Cfg := cf [(42, sem42)] 28 0 [(0, ⟨[(1, .loc (nameOf 1 0) []), (3, .loc (nameOf 3 0) []), (4, .own .bool false), (5, .dat (.int .i64))], [((nameOf 1 0), (.agg (.pair (.int .i64) (.pair (.int .u64) (.pair (.int .u64) .unit))))), ((nameOf 3 0), (.agg (.arr 128 .bool)))]⟩)]

noncomputable def sem66 : CSem := sm66

noncomputable def sg67 : Sig := ⟨[.val (.slice .bool)], [.own (.own (.int .u8))], []⟩
noncomputable def sm67 : CSem := mkSem sg67 fun x => ref03_Bytes x.1
noncomputable def cf67 : Cfg := cf [] 40 0 [(2, ⟨[(0, .dat (.slice .bool)), (3, .own (.int .u8) false), (4, .dat (.int .i64)), (5, .dat (.int .i64)), (6, .dat (.int .i64))], []⟩), (0, ⟨[(0, .dat (.slice .bool)), (3, .own (.int .u8) false), (4, .dat (.int .i64))], []⟩)]

noncomputable def sem67 : CSem := sm67

noncomputable def sg33 : Sig := ⟨[.val (.int .i64), .val (.int .i64)], [.own (.own (.int .u8))], []⟩
noncomputable def sm33 : CSem := mkSem sg33 fun x => ref07_Number x.1 x.2.1
noncomputable def cf33 : Cfg := cf [(66, sem66), (67, sem67)] 28 0 [(0, ⟨[(5, .own .bool false), (6, .own .bool false), (7, .dat (.int .i64))], []⟩)]

noncomputable def sem33 : CSem := sm33

noncomputable def sg34 : Sig := ⟨[.val (.slice (.int .u8)), .val (.int .i64)], [.own (.app (.int .u8))], []⟩
noncomputable def sm34 : CSem := mkSem sg34 fun x => wire_Two x.1 x.2.1
noncomputable def cf34 : Cfg := cf [(63, sem63)] 8 0 []

noncomputable def sem34 : CSem := sm34

noncomputable def sg35 : Sig := ⟨[.val (.slice (.int .u8)), .val (.int .i64)], [.own (.app (.int .u8))], []⟩
noncomputable def sm35 : CSem := mkSem sg35 fun x => wire_Four x.1 x.2.1
noncomputable def cf35 : Cfg := cf [(63, sem63)] 8 0 []

noncomputable def sem35 : CSem := sm35

noncomputable def sg41 : Sig := ⟨[.val (.agg (.arr 128 .bool))], [.val (.int .i64)], []⟩
noncomputable def sm41 : CSem := mkSem sg41 fun x => ref01_Len x.1
noncomputable def cf41 : Cfg := cf [] 13 0 [(0, ⟨[(1, .loc (nameOf 1 0) []), (3, .dat (.int .i64))], [((nameOf 1 0), (.agg (.arr 128 .bool)))]⟩)]

noncomputable def sem41 : CSem := sm41

noncomputable def sg10 : Sig := ⟨[.val (.agg (.pair (.int .i64) (.pair (.int .u64) (.pair (.int .u64) .unit))))], [.val .bool], []⟩
noncomputable def sm10 : CSem := mkSem sg10 fun x => ref02_May x.1
noncomputable def cf10 : Cfg := cf [(42, sem42), (41, sem41)] 22 0 []

noncomputable def sem10 : CSem := sm10

noncomputable def sg68 : Sig := ⟨[.val (.agg (.pair (.int .i64) (.pair (.int .u64) (.pair (.int .u64) .unit))))], [.own (.own .bool)], []⟩
noncomputable def sm68 : CSem := mkSem sg68 fun x => ref03_Of x.1
noncomputable def cf68 : Cfg := cf [(66, sem66)] 23 0 [(0, ⟨[(3, .own .bool false), (4, .own .bool false), (5, .dat (.int .i64))], []⟩)]

noncomputable def sem68 : CSem := sm68

noncomputable def sg36 : Sig := ⟨[.val (.agg (.pair (.int .i64) (.pair (.int .u64) (.pair (.int .u64) .unit))))], [.own (.own (.int .u8))], []⟩
noncomputable def sm36 : CSem := mkSem sg36 fun x => ref07_Vec x.1
noncomputable def cf36 : Cfg := cf [(10, sem10), (68, sem68), (67, sem67)] 30 0 [(0, ⟨[(1, .loc (nameOf 1 0) []), (3, .own .bool false)], [((nameOf 1 0), (.agg (.pair (.int .i64) (.pair (.int .u64) (.pair (.int .u64) .unit)))))]⟩)]

noncomputable def sem36 : CSem := sm36

noncomputable def sg37 : Sig := ⟨[.val (.slice (.int .u8)), .val .str], [.own (.app (.int .u8))], []⟩
noncomputable def sm37 : CSem := mkSem sg37 fun x => wire_Name x.1 x.2.1
noncomputable def cf37 : Cfg := cf [(63, sem63)] 16 0 []

noncomputable def sem37 : CSem := sm37

noncomputable def sg38 : Sig := ⟨[.val .str], [.own (.own (.int .u8))], []⟩
noncomputable def sm38 : CSem := mkSem sg38 fun x => ref07_Name x.1
noncomputable def cf38 : Cfg := cf [] 13 0 []

noncomputable def sem38 : CSem := sm38

noncomputable def sg39 : Sig := ⟨[.val (.slice (.int .u8)), .val (.slice (.agg (.pair (.int .i64) (.pair (.int .u64) (.pair (.int .u64) .unit)))))], [.own (.app (.int .u8))], []⟩
noncomputable def sm39 : CSem := mkSem sg39 fun x => wire_Vecs x.1 x.2.1
noncomputable def cf39 : Cfg := cf [(63, sem63), (31, sem31)] 28 0 [(0, ⟨[(5, .own (.int .u8) true), (17, .dat (.slice (.agg (.pair (.int .i64) (.pair (.int .u64) (.pair (.int .u64) .unit)))))), (18, .dat (.int .i64)), (19, .dat (.int .i64))], []⟩)]

noncomputable def sem39 : CSem := sm39

noncomputable def sg40 : Sig := ⟨[.val (.slice (.int .u8)), .val (.slice (.int .i64))], [.own (.app (.int .u8))], []⟩
noncomputable def sm40 : CSem := mkSem sg40 fun x => wire_Numbers x.1 x.2.1
noncomputable def cf40 : Cfg := cf [(63, sem63)] 30 0 [(0, ⟨[(5, .own (.int .u8) true), (17, .dat (.slice (.int .i64))), (18, .dat (.int .i64)), (19, .dat (.int .i64))], []⟩)]

noncomputable def sem40 : CSem := sm40

/-! ### shunter/shunterlaw07.write -/
noncomputable def law07_write_s1 (b_0_1 : List Int) (want_6_1 : List Int) (i_7_1 : Int) (p3_0_1 : Int × Int × Int × Int × (Int × Int × Int × Unit) × (List Int) × (List (Int × Int × Int × Unit)) × (List Int) × Unit) : Option ((((List Int) × (List Int) × Int × Unit) × ((Int × Int × Int × Int × (Int × Int × Int × Unit) × (List Int) × (List (Int × Int × Int × Unit)) × (List Int) × Unit) × Unit)) ⊕ (((List Int) × (List Int) × Unit) × (Unit))) :=
  bif (decide (i_7_1 < (p3_0_1.2.2.2.2.2.2.1.length : Int))) then
    (rdI p3_0_1.2.2.2.2.2.2.1 i_7_1).bind fun v_25 =>
    (ref07_Vec v_25).bind fun r_26 =>
    (roomI 1 want_6_1 r_26.1.1).bind fun v_27 =>
    some (.inl ((b_0_1, v_27, (IntKind.i64.wrap (i_7_1 + 1)), ()), (p3_0_1.1, p3_0_1.2.1, p3_0_1.2.2.1, p3_0_1.2.2.2.1, (p3_0_1.2.2.2.2.1.1, p3_0_1.2.2.2.2.1.2.1, p3_0_1.2.2.2.2.1.2.2.1, ()), p3_0_1.2.2.2.2.2.1, p3_0_1.2.2.2.2.2.2.1, p3_0_1.2.2.2.2.2.2.2.1, ()), ()))
  else
  ((wire_Vecs b_0_1 p3_0_1.2.2.2.2.2.2.1).bind fun r_29 =>
  some ((r_29.1.1, want_6_1, ()), ())).map .inr
noncomputable def law07_write_s3 (b_0_3 : List Int) (want_8_3 : List Int) (i_9_3 : Int) (p3_0_3 : Int × Int × Int × Int × (Int × Int × Int × Unit) × (List Int) × (List (Int × Int × Int × Unit)) × (List Int) × Unit) : Option ((((List Int) × (List Int) × Int × Unit) × ((Int × Int × Int × Int × (Int × Int × Int × Unit) × (List Int) × (List (Int × Int × Int × Unit)) × (List Int) × Unit) × Unit)) ⊕ (((List Int) × (List Int) × Unit) × (Unit))) :=
  bif (decide (i_9_3 < (p3_0_3.2.2.2.2.2.2.2.1.length : Int))) then
    (rdI p3_0_3.2.2.2.2.2.2.2.1 i_9_3).bind fun v_40 =>
    (roomI 1 want_8_3 [(IntKind.u8.wrap v_40)]).bind fun v_42 =>
    some (.inl ((b_0_3, v_42, (IntKind.i64.wrap (i_9_3 + 1)), ()), (p3_0_3.1, p3_0_3.2.1, p3_0_3.2.2.1, p3_0_3.2.2.2.1, (p3_0_3.2.2.2.2.1.1, p3_0_3.2.2.2.2.1.2.1, p3_0_3.2.2.2.2.1.2.2.1, ()), p3_0_3.2.2.2.2.2.1, p3_0_3.2.2.2.2.2.2.1, p3_0_3.2.2.2.2.2.2.2.1, ()), ()))
  else
  ((wire_Numbers b_0_3 p3_0_3.2.2.2.2.2.2.2.1).bind fun r_44 =>
  some ((r_44.1.1, want_8_3, ()), ())).map .inr
noncomputable def law07_write (b_0 : List Int) (o_1 : Int × Int × Int × Int × (Int × Int × Int × Unit) × (List Int) × (List (Int × Int × Int × Unit)) × (List Int) × Unit) : Option (((List Int) × (List Int) × Unit) × (Unit)) :=
  bif (decide (o_1.1 = 0)) then
    (wire_Byte b_0 o_1.2.1).bind fun r_2 =>
    (ref07_Number o_1.2.1 1).bind fun r_3 =>
    some ((r_2.1.1, r_3.1.1, ()), ())
  else
  bif (decide (o_1.1 = 1)) then
    (wire_Two b_0 o_1.2.1).bind fun r_5 =>
    (ref07_Number o_1.2.1 2).bind fun r_6 =>
    some ((r_5.1.1, r_6.1.1, ()), ())
  else
  bif (decide (o_1.1 = 2)) then
    (wire_Four b_0 o_1.2.1).bind fun r_8 =>
    (ref07_Number o_1.2.1 4).bind fun r_9 =>
    some ((r_8.1.1, r_9.1.1, ()), ())
  else
  bif (decide (o_1.1 = 3)) then
    (wire_Vec b_0 (o_1.2.2.2.2.1.1, o_1.2.2.2.2.1.2.1, o_1.2.2.2.2.1.2.2.1, ())).bind fun r_11 =>
    (ref07_Vec (o_1.2.2.2.2.1.1, o_1.2.2.2.2.1.2.1, o_1.2.2.2.2.1.2.2.1, ())).bind fun r_12 =>
    some ((r_11.1.1, r_12.1.1, ()), ())
  else
  bif (decide (o_1.1 = 4)) then
    (wire_Name b_0 o_1.2.2.2.2.2.1).bind fun r_14 =>
    (ref07_Name o_1.2.2.2.2.2.1).bind fun r_15 =>
    some ((r_14.1.1, r_15.1.1, ()), ())
  else
  bif (decide (o_1.1 = 5)) then
    bif (decide ((o_1.2.2.2.2.2.2.1.length : Int) ≤ 255)) then
      (Option.map (fun _ => 0) (ckI 0 [0].length)).bind fun v_21 =>
      (stI [0] v_21 (IntKind.u8.wrap (o_1.2.2.2.2.2.2.1.length : Int))).bind fun v_22 =>
      loopR (fun (z : ((List Int) × (List Int) × Int × Unit) × ((Int × Int × Int × Int × (Int × Int × Int × Unit) × (List Int) × (List (Int × Int × Int × Unit)) × (List Int) × Unit) × Unit)) => law07_write_s1 z.1.1 z.1.2.1 z.1.2.2.1 z.2.1) ((b_0, v_22, 0, ()), (o_1.1, o_1.2.1, o_1.2.2.1, o_1.2.2.2.1, (o_1.2.2.2.2.1.1, o_1.2.2.2.2.1.2.1, o_1.2.2.2.2.1.2.2.1, ()), o_1.2.2.2.2.2.1, o_1.2.2.2.2.2.2.1, o_1.2.2.2.2.2.2.2.1, ()), ())
    else
    (wire_Vecs b_0 o_1.2.2.2.2.2.2.1).bind fun r_30 =>
    some ((r_30.1.1, [0], ()), ())
  else
  bif (decide (o_1.1 = 6)) then
    bif (decide ((o_1.2.2.2.2.2.2.2.1.length : Int) ≤ 255)) then
      (Option.map (fun _ => 0) (ckI 0 [0].length)).bind fun v_36 =>
      (stI [0] v_36 (IntKind.u8.wrap (o_1.2.2.2.2.2.2.2.1.length : Int))).bind fun v_37 =>
      loopR (fun (z : ((List Int) × (List Int) × Int × Unit) × ((Int × Int × Int × Int × (Int × Int × Int × Unit) × (List Int) × (List (Int × Int × Int × Unit)) × (List Int) × Unit) × Unit)) => law07_write_s3 z.1.1 z.1.2.1 z.1.2.2.1 z.2.1) ((b_0, v_37, 0, ()), (o_1.1, o_1.2.1, o_1.2.2.1, o_1.2.2.2.1, (o_1.2.2.2.2.1.1, o_1.2.2.2.2.1.2.1, o_1.2.2.2.2.1.2.2.1, ()), o_1.2.2.2.2.2.1, o_1.2.2.2.2.2.2.1, o_1.2.2.2.2.2.2.2.1, ()), ())
    else
    (wire_Numbers b_0 o_1.2.2.2.2.2.2.2.1).bind fun r_45 =>
    some ((r_45.1.1, [0], ()), ())
  else
  some ((b_0, [], ()), ())

noncomputable def sg9 : Sig := ⟨[.val (.slice (.int .u8)), .val (.agg (.pair (.int .i64) (.pair (.int .i64) (.pair (.int .i64) (.pair (.int .i64) (.pair (.agg (.pair (.int .i64) (.pair (.int .u64) (.pair (.int .u64) .unit)))) (.pair .str (.pair (.slice (.agg (.pair (.int .i64) (.pair (.int .u64) (.pair (.int .u64) .unit))))) (.pair (.slice (.int .i64)) .unit)))))))))], [.val (.slice (.int .u8)), .own (.own (.int .u8))], []⟩
noncomputable def sm9 : CSem := mkSem sg9 fun x => law07_write x.1 x.2.1
noncomputable def cf9 : Cfg := cf [(32, sem32), (33, sem33), (34, sem34), (35, sem35), (31, sem31), (36, sem36), (37, sem37), (38, sem38), (39, sem39), (40, sem40)] 125 0 [(1, ⟨[(0, .dat (.slice (.int .u8))), (3, .loc (nameOf 3 0) []), (6, .own (.int .u8) false), (7, .dat (.int .i64))], [((nameOf 3 0), (.agg (.pair (.int .i64) (.pair (.int .i64) (.pair (.int .i64) (.pair (.int .i64) (.pair (.agg (.pair (.int .i64) (.pair (.int .u64) (.pair (.int .u64) .unit)))) (.pair .str (.pair (.slice (.agg (.pair (.int .i64) (.pair (.int .u64) (.pair (.int .u64) .unit))))) (.pair (.slice (.int .i64)) .unit))))))))))]⟩), (3, ⟨[(0, .dat (.slice (.int .u8))), (3, .loc (nameOf 3 0) []), (8, .own (.int .u8) false), (9, .dat (.int .i64))], [((nameOf 3 0), (.agg (.pair (.int .i64) (.pair (.int .i64) (.pair (.int .i64) (.pair (.int .i64) (.pair (.agg (.pair (.int .i64) (.pair (.int .u64) (.pair (.int .u64) .unit)))) (.pair .str (.pair (.slice (.agg (.pair (.int .i64) (.pair (.int .u64) (.pair (.int .u64) .unit))))) (.pair (.slice (.int .i64)) .unit))))))))))]⟩)]

noncomputable def sem9 : CSem := sm9

/-! ### shunter/shunterlaw07.WireWrites -/
noncomputable def law07_WireWrites_s0 (ops_0_0 : List (Int × Int × Int × Int × (Int × Int × Int × Unit) × (List Int) × (List (Int × Int × Int × Unit)) × (List Int) × Unit)) (b_3_0 : List Int) (i_4_0 : Int) : Option ((((List (Int × Int × Int × Int × (Int × Int × Int × Unit) × (List Int) × (List (Int × Int × Int × Unit)) × (List Int) × Unit)) × (List Int) × Int × Unit) × (Unit)) ⊕ ((Bool × Unit) × (Unit))) :=
  bif (decide (i_4_0 < (ops_0_0.length : Int))) then
    (rdI ops_0_0 i_4_0).bind fun v_5 =>
    (law07_write b_3_0 v_5).bind fun r_6 =>
    (catI b_3_0 r_6.1.2.1).bind fun v_7 =>
    bif (!decide (r_6.1.1 = v_7)) then
      some (.inr ((false, ()), ()))
    else
    some (.inl ((ops_0_0, r_6.1.1, (IntKind.i64.wrap (i_4_0 + 1)), ()), ()))
  else
  (law07_lives.bind fun r_10 =>
  some ((r_10.1.1, ()), ())).map .inr
noncomputable def law07_WireWrites (ops_0 : List (Int × Int × Int × Int × (Int × Int × Int × Unit) × (List Int) × (List (Int × Int × Int × Unit)) × (List Int) × Unit)) : Option ((Bool × Unit) × (Unit)) :=
  (law07_light ops_0).bind fun r_1 =>
  bif !r_1.1.1 then
    law07_lives.bind fun r_2 =>
    some ((r_2.1.1, ()), ())
  else
  loopR (fun (z : ((List (Int × Int × Int × Int × (Int × Int × Int × Unit) × (List Int) × (List (Int × Int × Int × Unit)) × (List Int) × Unit)) × (List Int) × Int × Unit) × (Unit)) => law07_WireWrites_s0 z.1.1 z.1.2.1 z.1.2.2.1) ((ops_0, [], 0, ()), ())

noncomputable def sg3 : Sig := ⟨[.val (.slice (.agg (.pair (.int .i64) (.pair (.int .i64) (.pair (.int .i64) (.pair (.int .i64) (.pair (.agg (.pair (.int .i64) (.pair (.int .u64) (.pair (.int .u64) .unit)))) (.pair .str (.pair (.slice (.agg (.pair (.int .i64) (.pair (.int .u64) (.pair (.int .u64) .unit))))) (.pair (.slice (.int .i64)) .unit))))))))))], [.val .bool], []⟩
noncomputable def sm3 : CSem := mkSem sg3 fun x => law07_WireWrites x.1
noncomputable def cf3 : Cfg := cf [(7, sem7), (8, sem8), (9, sem9)] 36 0 [(0, ⟨[(0, .dat (.slice (.agg (.pair (.int .i64) (.pair (.int .i64) (.pair (.int .i64) (.pair (.int .i64) (.pair (.agg (.pair (.int .i64) (.pair (.int .u64) (.pair (.int .u64) .unit)))) (.pair .str (.pair (.slice (.agg (.pair (.int .i64) (.pair (.int .u64) (.pair (.int .u64) .unit))))) (.pair (.slice (.int .i64)) .unit))))))))))), (3, .dat (.slice (.int .u8))), (4, .dat (.int .i64))], []⟩)]

noncomputable def sem3 : CSem := sm3

noncomputable def sg58 : Sig := ⟨[.obj (.agg (.pair (.slice (.int .u8)) (.pair (.int .i64) (.pair .nilp .unit)))), .val (.int .i64), .val (.int .i64)], [], [(.agg (.pair (.slice (.int .u8)) (.pair (.int .i64) (.pair (.ptr (.agg (.pair (.int .i64) (.pair (.int .i64) .unit)))) .unit))))]⟩
noncomputable def sm58 : CSem := mkSem sg58 fun x => wire_cursor_fail_36a x.1 x.2.1 x.2.2.1
noncomputable def cf58 : Cfg := cf [] 22 1 []

noncomputable def sg58a : Sig := ⟨[.obj (.agg (.pair (.slice (.int .u8)) (.pair (.int .i64) (.pair (.ptr (.agg (.pair (.int .i64) (.pair (.int .i64) .unit)))) .unit)))), .val (.int .i64), .val (.int .i64)], [], [(.agg (.pair (.slice (.int .u8)) (.pair (.int .i64) (.pair (.ptr (.agg (.pair (.int .i64) (.pair (.int .i64) .unit)))) .unit))))]⟩
noncomputable def sm58a : CSem := mkSem sg58a fun x => wire_cursor_fail_ba6 x.1 x.2.1 x.2.2.1
noncomputable def cf58a : Cfg := cf [] 22 1 []

noncomputable def sem58 : CSem := orSem sm58 (sm58a)

noncomputable def sg25 : Sig := ⟨[.val .nilp, .val (.int .i64)], [], []⟩
noncomputable def sm25 : CSem := mkSem sg25 fun x => wire_Reader_Fail_d6c x.1 x.2.1
noncomputable def cf25 : Cfg := cf [] 16 0 []

noncomputable def sg25a : Sig := ⟨[.obj (.agg (.pair (.agg (.pair (.slice (.int .u8)) (.pair (.int .i64) (.pair (.ptr (.agg (.pair (.int .i64) (.pair (.int .i64) .unit)))) .unit)))) .unit)), .val (.int .i64)], [], [(.agg (.pair (.agg (.pair (.slice (.int .u8)) (.pair (.int .i64) (.pair (.ptr (.agg (.pair (.int .i64) (.pair (.int .i64) .unit)))) .unit)))) .unit))]⟩
noncomputable def sm25a : CSem := mkSem sg25a fun x => wire_Reader_Fail_e57 x.1 x.2.1
noncomputable def cf25a : Cfg := cf [(58, sem58)] 16 1 []

noncomputable def sem25 : CSem := orSem sm25 (sm25a)

noncomputable def sg23 : Sig := ⟨[.val .nilp], [.val .bool], []⟩
noncomputable def sm23 : CSem := mkSem sg23 fun x => wire_Reader_Bad_d35 x.1
noncomputable def cf23 : Cfg := cf [] 13 0 []

noncomputable def sem23 : CSem := sm23

noncomputable def sg20 : Sig := ⟨[.val .nilp], [.val (.int .i64)], []⟩
noncomputable def sm20 : CSem := mkSem sg20 fun x => wire_Reader_Left_d35 x.1
noncomputable def cf20 : Cfg := cf [] 17 0 []

noncomputable def sg20a : Sig := ⟨[.obj (.agg (.pair (.agg (.pair (.slice (.int .u8)) (.pair (.int .i64) (.pair (.ptr (.agg (.pair (.int .i64) (.pair (.int .i64) .unit)))) .unit)))) .unit))], [.val (.int .i64)], [(.agg (.pair (.agg (.pair (.slice (.int .u8)) (.pair (.int .i64) (.pair (.ptr (.agg (.pair (.int .i64) (.pair (.int .i64) .unit)))) .unit)))) .unit))]⟩
noncomputable def sm20a : CSem := mkSem sg20a fun x => wire_Reader_Left_59d x.1
noncomputable def cf20a : Cfg := cf [] 17 1 []

noncomputable def sem20 : CSem := orSem sm20 (sm20a)

noncomputable def sg19 : Sig := ⟨[.val .nilp], [.val (.alt 60 (.ptr (.agg (.pair (.int .i64) (.pair (.int .i64) .unit)))) .nili)], []⟩
noncomputable def sm19 : CSem := mkSem sg19 fun x => wire_Reader_End_d35 x.1
noncomputable def cf19 : Cfg := cf [] 47 0 []

noncomputable def sg19a : Sig := ⟨[.obj (.agg (.pair (.agg (.pair (.slice (.int .u8)) (.pair (.int .i64) (.pair (.ptr (.agg (.pair (.int .i64) (.pair (.int .i64) .unit)))) .unit)))) .unit))], [.val (.alt 60 (.ptr (.agg (.pair (.int .i64) (.pair (.int .i64) .unit)))) .nili)], [(.agg (.pair (.agg (.pair (.slice (.int .u8)) (.pair (.int .i64) (.pair (.ptr (.agg (.pair (.int .i64) (.pair (.int .i64) .unit)))) .unit)))) .unit))]⟩
noncomputable def sm19a : CSem := mkSem sg19a fun x => wire_Reader_End_59d x.1
noncomputable def cf19a : Cfg := cf [(20, sem20)] 47 1 []

noncomputable def sem19 : CSem := orSem sm19 (sm19a)

noncomputable def sg18 : Sig := ⟨[.val (.alt 60 (.ptr (.agg (.pair (.int .i64) (.pair (.int .i64) .unit)))) .nili)], [.val (.int .i64), .val (.int .i64)], []⟩
noncomputable def sm18 : CSem := mkSem sg18 fun x => wire_Why_8d8 x.1
noncomputable def cf18 : Cfg := cf [] 27 0 []

noncomputable def sem18 : CSem := sm18

noncomputable def sg48 : Sig := ⟨[.obj (.agg (.pair (.slice (.int .u8)) (.pair (.int .i64) (.pair .nilp .unit)))), .val (.int .i64)], [.val (.slice (.int .u8)), .val .bool], [(.agg (.pair (.slice (.int .u8)) (.pair (.int .i64) (.pair .nilp .unit))))]⟩
noncomputable def sm48 : CSem := mkSem sg48 fun x => wire_cursor_take_1ca x.1 x.2.1
noncomputable def cf48 : Cfg := cf [] 48 1 []

noncomputable def sg48a : Sig := ⟨[.obj (.agg (.pair (.slice (.int .u8)) (.pair (.int .i64) (.pair (.ptr (.agg (.pair (.int .i64) (.pair (.int .i64) .unit)))) .unit)))), .val (.int .i64)], [.val (.slice (.int .u8)), .val .bool], [(.agg (.pair (.slice (.int .u8)) (.pair (.int .i64) (.pair (.ptr (.agg (.pair (.int .i64) (.pair (.int .i64) .unit)))) .unit))))]⟩
noncomputable def sm48a : CSem := mkSem sg48a fun x => wire_cursor_take_c4f x.1 x.2.1
noncomputable def cf48a : Cfg := cf [] 48 1 []

noncomputable def sem48 : CSem := orSem sm48 (sm48a)

noncomputable def sg46 : Sig := ⟨[.val .nilp, .val (.int .i64), .val (.int .i64)], [.val (.int .i64)], []⟩
noncomputable def sm46 : CSem := mkSem sg46 fun x => wire_Reader_number_639 x.1 x.2.1 x.2.2.1
noncomputable def cf46 : Cfg := cf [] 61 0 []

noncomputable def sg46a : Sig := ⟨[.obj (.agg (.pair (.agg (.pair (.slice (.int .u8)) (.pair (.int .i64) (.pair .nilp .unit)))) .unit)), .val (.int .i64), .val (.int .i64)], [.val (.int .i64)], [(.agg (.pair (.agg (.pair (.slice (.int .u8)) (.pair (.int .i64) (.pair (.ptr (.agg (.pair (.int .i64) (.pair (.int .i64) .unit)))) .unit)))) .unit))]⟩
noncomputable def sm46a : CSem := mkSem sg46a fun x => wire_Reader_number_395 x.1 x.2.1 x.2.2.1
noncomputable def cf46a : Cfg := cf [(48, sem48), (58, sem58)] 61 1 [(0, ⟨[(0, .loc (objName 0) []), (2, .dat (.int .i64)), (7, .dat (.int .i64)), (10, .dat (.int .i64)), (35, .dat (.slice (.int .u8))), (36, .dat (.int .i64)), (37, .dat (.int .i64))], [((objName 0), (.agg (.pair (.agg (.pair (.slice (.int .u8)) (.pair (.int .i64) (.pair .nilp .unit)))) .unit)))]⟩)]

noncomputable def sg46b : Sig := ⟨[.obj (.agg (.pair (.agg (.pair (.slice (.int .u8)) (.pair (.int .i64) (.pair (.ptr (.agg (.pair (.int .i64) (.pair (.int .i64) .unit)))) .unit)))) .unit)), .val (.int .i64), .val (.int .i64)], [.val (.int .i64)], [(.agg (.pair (.agg (.pair (.slice (.int .u8)) (.pair (.int .i64) (.pair (.ptr (.agg (.pair (.int .i64) (.pair (.int .i64) .unit)))) .unit)))) .unit))]⟩
noncomputable def sm46b : CSem := mkSem sg46b fun x => wire_Reader_number_28a x.1 x.2.1 x.2.2.1
noncomputable def cf46b : Cfg := cf [(48, sem48), (58, sem58)] 61 1 [(0, ⟨[(0, .loc (objName 0) []), (2, .dat (.int .i64)), (7, .dat (.int .i64)), (10, .dat (.int .i64)), (35, .dat (.slice (.int .u8))), (36, .dat (.int .i64)), (37, .dat (.int .i64))], [((objName 0), (.agg (.pair (.agg (.pair (.slice (.int .u8)) (.pair (.int .i64) (.pair (.ptr (.agg (.pair (.int .i64) (.pair (.int .i64) .unit)))) .unit)))) .unit)))]⟩)]

noncomputable def sem46 : CSem := orSem sm46 (orSem sm46a (sm46b))

noncomputable def sg13 : Sig := ⟨[.val .nilp, .val (.int .i64)], [.val (.int .i64)], []⟩
noncomputable def sm13 : CSem := mkSem sg13 fun x => wire_Reader_Byte_d6c x.1 x.2.1
noncomputable def cf13 : Cfg := cf [(46, sem46)] 8 0 []

noncomputable def sg13a : Sig := ⟨[.obj (.agg (.pair (.agg (.pair (.slice (.int .u8)) (.pair (.int .i64) (.pair .nilp .unit)))) .unit)), .val (.int .i64)], [.val (.int .i64)], [(.agg (.pair (.agg (.pair (.slice (.int .u8)) (.pair (.int .i64) (.pair (.ptr (.agg (.pair (.int .i64) (.pair (.int .i64) .unit)))) .unit)))) .unit))]⟩
noncomputable def sm13a : CSem := mkSem sg13a fun x => wire_Reader_Byte_db0 x.1 x.2.1
noncomputable def cf13a : Cfg := cf [(46, sem46)] 8 1 []

noncomputable def sg13b : Sig := ⟨[.obj (.agg (.pair (.agg (.pair (.slice (.int .u8)) (.pair (.int .i64) (.pair (.ptr (.agg (.pair (.int .i64) (.pair (.int .i64) .unit)))) .unit)))) .unit)), .val (.int .i64)], [.val (.int .i64)], [(.agg (.pair (.agg (.pair (.slice (.int .u8)) (.pair (.int .i64) (.pair (.ptr (.agg (.pair (.int .i64) (.pair (.int .i64) .unit)))) .unit)))) .unit))]⟩
noncomputable def sm13b : CSem := mkSem sg13b fun x => wire_Reader_Byte_e57 x.1 x.2.1
noncomputable def cf13b : Cfg := cf [(46, sem46)] 8 1 []

noncomputable def sem13 : CSem := orSem sm13 (orSem sm13a (sm13b))

noncomputable def sg14 : Sig := ⟨[.val .nilp, .val (.int .i64)], [.val (.int .i64)], []⟩
noncomputable def sm14 : CSem := mkSem sg14 fun x => wire_Reader_Two_d6c x.1 x.2.1
noncomputable def cf14 : Cfg := cf [(46, sem46)] 8 0 []

noncomputable def sem14 : CSem := sm14

noncomputable def sg15 : Sig := ⟨[.val .nilp, .val (.int .i64)], [.val (.int .i64)], []⟩
noncomputable def sm15 : CSem := mkSem sg15 fun x => wire_Reader_Four_d6c x.1 x.2.1
noncomputable def cf15 : Cfg := cf [(46, sem46)] 8 0 []

noncomputable def sem15 : CSem := sm15

noncomputable def ag16 : List AK := [.val .nilp]
noncomputable def al16 : List Alt := [([.val (.agg (.pair (.int .i64) (.pair (.int .u64) (.pair (.int .u64) .unit))))], [])]
noncomputable def sm16 : CSem := mkSemA ag16 al16 fun x => wire_Reader_Vec_d35 x.1
noncomputable def cf16 : Cfg := cf [] 75 0 []

noncomputable def sem16 : CSem := sm16

noncomputable def sg17 : Sig := ⟨[.val .nilp], [.val .str], []⟩
noncomputable def sm17 : CSem := mkSem sg17 fun x => wire_Reader_Name_d35 x.1
noncomputable def cf17 : Cfg := cf [] 40 0 []

noncomputable def sem17 : CSem := sm17

noncomputable def sg26 : Sig := ⟨[.val .nilp, .val (.int .i64)], [.val (.nils (.agg (.pair (.int .i64) (.pair (.int .u64) (.pair (.int .u64) .unit)))))], []⟩
noncomputable def sm26 : CSem := mkSem sg26 fun x => wire_Reader_Vecs_d6c x.1 x.2.1
noncomputable def cf26 : Cfg := cf [] 27 0 []

noncomputable def sem26 : CSem := sm26

noncomputable def sg27 : Sig := ⟨[.val .nilp, .val (.int .i64), .val (.int .i64)], [.val (.nils (.int .i64))], []⟩
noncomputable def sm27 : CSem := mkSem sg27 fun x => wire_Reader_Numbers_639 x.1 x.2.1 x.2.2.1
noncomputable def cf27 : Cfg := cf [] 30 0 []

noncomputable def sem27 : CSem := sm27

noncomputable def sg22 : Sig := ⟨[.val .nilp], [.val (.int .i64)], []⟩
noncomputable def sm22 : CSem := mkSem sg22 fun x => wire_Reader_At_d35 x.1
noncomputable def cf22 : Cfg := cf [] 10 0 []

noncomputable def sg22a : Sig := ⟨[.obj (.agg (.pair (.agg (.pair (.slice (.int .u8)) (.pair (.int .i64) (.pair (.ptr (.agg (.pair (.int .i64) (.pair (.int .i64) .unit)))) .unit)))) .unit))], [.val (.int .i64)], [(.agg (.pair (.agg (.pair (.slice (.int .u8)) (.pair (.int .i64) (.pair (.ptr (.agg (.pair (.int .i64) (.pair (.int .i64) .unit)))) .unit)))) .unit))]⟩
noncomputable def sm22a : CSem := mkSem sg22a fun x => wire_Reader_At_59d x.1
noncomputable def cf22a : Cfg := cf [] 10 1 []

noncomputable def sem22 : CSem := orSem sm22 (sm22a)

noncomputable def sg12 : Sig := ⟨[.val (.slice (.int .u8))], [.ptr (.agg (.pair (.agg (.pair (.slice (.int .u8)) (.pair (.int .i64) (.pair .nilp .unit)))) .unit))], []⟩
noncomputable def sm12 : CSem := mkSem sg12 fun x => wire_Read x.1
noncomputable def cf12 : Cfg := cf [(45, sem45)] 8 0 []

noncomputable def sem12 : CSem := sm12

noncomputable def sg85 : Sig := ⟨[.val (.int .i64)], [.val .bool], []⟩
noncomputable def sm85 : CSem := mkSem sg85 fun x => word_based x.1
noncomputable def cf85 : Cfg := cf [] 9 0 []

noncomputable def sem85 : CSem := sm85

noncomputable def sg94 : Sig := ⟨[.val (.int .u64)], [.val (.int .i64)], []⟩
noncomputable def sm94 : CSem := mkSem sg94 fun x => bits_LeadingZeros64 x.1
noncomputable def cf94 : Cfg := cf [(90, sem90)] 6 0 []

noncomputable def sem94 : CSem := sm94

noncomputable def sg91 : Sig := ⟨[.val (.int .u64), .val (.int .u64), .val (.int .u64)], [.val (.int .u64), .val (.int .u64)], []⟩
noncomputable def sm91 : CSem := mkSem sg91 fun x => bits_Div64 x.1 x.2.1 x.2.2.1
noncomputable def cf91 : Cfg := cf [(94, sem94)] 135 0 [(2, ⟨[(2, .dat (.int .u64)), (8, .dat (.int .u64)), (9, .dat (.int .u64)), (10, .dat (.int .u64)), (14, .dat (.int .u64)), (15, .dat (.int .u64)), (16, .dat (.int .u64)), (17, .dat (.int .u64)), (18, .dat (.int .u64))], []⟩), (0, ⟨[(2, .dat (.int .u64)), (8, .dat (.int .u64)), (9, .dat (.int .u64)), (10, .dat (.int .u64)), (11, .dat (.int .u64)), (13, .dat (.int .u64)), (14, .dat (.int .u64)), (15, .dat (.int .u64)), (16, .dat (.int .u64))], []⟩)]

noncomputable def sem91 : CSem := sm91

noncomputable def ag86 : List AK := [.val (.agg (.pair (.int .u64) (.pair (.int .u64) .unit))), .val (.int .u64)]
noncomputable def al86 : List Alt := [([.val (.agg (.pair (.int .u64) (.pair (.int .u64) .unit))), .val (.int .u64), .val .bool], [])]
noncomputable def sm86 : CSem := mkSemA ag86 al86 fun x => word_Div x.1 x.2.1
noncomputable def cf86 : Cfg := cf [(91, sem91)] 33 0 []

noncomputable def sem86 : CSem := sm86

noncomputable def sg76 : Sig := ⟨[.val (.agg (.pair (.int .u64) (.pair (.int .u64) .unit))), .val (.int .i64)], [.val .str], []⟩
noncomputable def sm76 : CSem := mkSem sg76 fun x => word_Text x.1 x.2.1
noncomputable def cf76 : Cfg := cf [(85, sem85), (86, sem86)] 66 0 [(2, ⟨[(5, .own (.int .u8) false), (37, .dat (.int .i64)), (38, .dat (.int .i64))], []⟩), (0, ⟨[(1, .dat (.int .i64)), (2, .loc (nameOf 2 0) []), (5, .own (.int .u8) false)], [((nameOf 2 0), (.agg (.pair (.int .u64) (.pair (.int .u64) .unit))))]⟩)]

noncomputable def sem76 : CSem := sm76

noncomputable def sg60 : Sig := ⟨[.val (.int .i64)], [.val .str], []⟩
noncomputable def sm60 : CSem := mkSem sg60 fun x => wire_digits x.1
noncomputable def cf60 : Cfg := cf [(76, sem76)] 9 0 []

noncomputable def sem60 : CSem := sm60

noncomputable def sg28 : Sig := ⟨[.val .nilp], [.val .str], []⟩
noncomputable def sm28 : CSem := mkSem sg28 fun x => wire_Fault_Error_d35 x.1
noncomputable def cf28 : Cfg := cf [] 18 0 []

noncomputable def sg28a : Sig := ⟨[.val (.ptr (.agg (.pair (.int .i64) (.pair (.int .i64) .unit))))], [.val .str], []⟩
noncomputable def sm28a : CSem := mkSem sg28a fun x => wire_Fault_Error_bca x.1
noncomputable def cf28a : Cfg := cf [(60, sem60)] 18 0 []

noncomputable def sem28 : CSem := orSem sm28 (sm28a)

noncomputable def ag78 : List AK := [.val (.int .i64)]
noncomputable def al78 : List Alt := [([.val (.agg (.arr 128 .bool))], [])]
noncomputable def sm78 : CSem := mkSemA ag78 al78 fun x => ref01_small x.1
noncomputable def cf78 : Cfg := cf [(42, sem42)] 6 0 []

noncomputable def sem78 : CSem := sm78

noncomputable def ag87 : List AK := [.val (.agg (.arr 128 .bool)), .val (.int .i64)]
noncomputable def al87 : List Alt := [([.val (.agg (.arr 128 .bool))], [])]
noncomputable def sm87 : CSem := mkSemA ag87 al87 fun x => ref01_Moved x.1 x.2.1
noncomputable def cf87 : Cfg := cf [] 37 0 [(0, ⟨[(1, .dat (.int .i64)), (2, .loc (nameOf 2 0) []), (4, .loc (nameOf 4 0) []), (5, .loc (nameOf 5 0) []), (6, .dat (.int .i64))], [((nameOf 2 0), (.agg (.arr 128 .bool))), ((nameOf 4 0), (.agg (.arr 128 .bool))), ((nameOf 5 0), (.agg (.arr 128 .bool)))]⟩)]

noncomputable def sem87 : CSem := sm87

noncomputable def sg88 : Sig := ⟨[.val (.agg (.arr 128 .bool)), .val (.agg (.arr 128 .bool))], [.val .bool], []⟩
noncomputable def sm88 : CSem := mkSem sg88 fun x => ref01_Less x.1 x.2.1
noncomputable def cf88 : Cfg := cf [] 20 0 [(0, ⟨[(2, .loc (nameOf 2 0) []), (3, .loc (nameOf 3 0) []), (5, .dat (.int .i64))], [((nameOf 2 0), (.agg (.arr 128 .bool))), ((nameOf 3 0), (.agg (.arr 128 .bool)))]⟩)]

noncomputable def sem88 : CSem := sm88

noncomputable def ag93 : List AK := [.val (.agg (.arr 128 .bool))]
noncomputable def al93 : List Alt := [([.val (.agg (.arr 128 .bool))], [])]
noncomputable def sm93 : CSem := mkSemA ag93 al93 fun x => ref01_Turned x.1
noncomputable def cf93 : Cfg := cf [] 16 0 [(0, ⟨[(1, .loc (nameOf 1 0) []), (2, .loc (nameOf 2 0) []), (3, .loc (nameOf 3 0) []), (4, .dat (.int .i64))], [((nameOf 1 0), (.agg (.arr 128 .bool))), ((nameOf 2 0), (.agg (.arr 128 .bool))), ((nameOf 3 0), (.agg (.arr 128 .bool)))]⟩)]

noncomputable def sem93 : CSem := sm93

noncomputable def ag92 : List AK := [.val (.agg (.arr 128 .bool)), .val (.agg (.arr 128 .bool)), .val .bool]
noncomputable def al92 : List Alt := [([.val (.agg (.arr 128 .bool)), .val .bool], [])]
noncomputable def sm92 : CSem := mkSemA ag92 al92 fun x => ref01_Sum x.1 x.2.1 x.2.2.1
noncomputable def cf92 : Cfg := cf [] 37 0 [(0, ⟨[(2, .dat .bool), (3, .loc (nameOf 3 0) []), (4, .loc (nameOf 4 0) []), (6, .loc (nameOf 6 0) []), (8, .loc (nameOf 8 0) []), (9, .dat (.int .i64))], [((nameOf 3 0), (.agg (.arr 128 .bool))), ((nameOf 4 0), (.agg (.arr 128 .bool))), ((nameOf 6 0), (.agg (.arr 128 .bool))), ((nameOf 8 0), (.agg (.arr 128 .bool)))]⟩)]

noncomputable def sem92 : CSem := sm92

noncomputable def ag89 : List AK := [.val (.agg (.arr 128 .bool)), .val (.agg (.arr 128 .bool))]
noncomputable def al89 : List Alt := [([.val (.agg (.arr 128 .bool)), .val .bool], [])]
noncomputable def sm89 : CSem := mkSemA ag89 al89 fun x => ref01_Minus x.1 x.2.1
noncomputable def cf89 : Cfg := cf [(93, sem93), (92, sem92), (88, sem88)] 19 0 []

noncomputable def sem89 : CSem := sm89

noncomputable def ag77 : List AK := [.val (.agg (.arr 128 .bool)), .val (.agg (.arr 128 .bool))]
noncomputable def al77 : List Alt := [([.val (.agg (.arr 128 .bool)), .val (.agg (.arr 128 .bool))], [])]
noncomputable def sm77 : CSem := mkSemA ag77 al77 fun x => ref01_Part x.1 x.2.1
noncomputable def cf77 : Cfg := cf [(87, sem87), (88, sem88), (89, sem89)] 39 0 [(0, ⟨[(2, .loc (nameOf 2 0) []), (3, .loc (nameOf 3 0) []), (4, .loc (nameOf 4 0) []), (5, .loc (nameOf 5 0) []), (6, .loc (nameOf 6 0) []), (7, .loc (nameOf 7 0) []), (8, .dat (.int .i64))], [((nameOf 2 0), (.agg (.arr 128 .bool))), ((nameOf 3 0), (.agg (.arr 128 .bool))), ((nameOf 4 0), (.agg (.arr 128 .bool))), ((nameOf 5 0), (.agg (.arr 128 .bool))), ((nameOf 6 0), (.agg (.arr 128 .bool))), ((nameOf 7 0), (.agg (.arr 128 .bool)))]⟩)]

noncomputable def sem77 : CSem := sm77

noncomputable def sg79 : Sig := ⟨[.val (.agg (.arr 128 .bool))], [.val (.int .u64), .val (.int .u64)], []⟩
noncomputable def sm79 : CSem := mkSem sg79 fun x => ref01_Halves x.1
noncomputable def cf79 : Cfg := cf [] 28 0 [(0, ⟨[(1, .loc (nameOf 1 0) []), (4, .dat (.int .u64)), (5, .dat (.int .u64)), (6, .dat (.int .i64))], [((nameOf 1 0), (.agg (.arr 128 .bool)))]⟩)]

noncomputable def sem79 : CSem := sm79

noncomputable def sg61 : Sig := ⟨[.val (.agg (.arr 128 .bool)), .val (.int .i64)], [.val .str], []⟩
noncomputable def sm61 : CSem := mkSem sg61 fun x => ref01_Text x.1 x.2.1
noncomputable def cf61 : Cfg := cf [(41, sem41), (78, sem78), (77, sem77), (79, sem79)] 37 0 [(0, ⟨[(1, .dat (.int .i64)), (2, .loc (nameOf 2 0) []), (5, .dat .str)], [((nameOf 2 0), (.agg (.arr 128 .bool)))]⟩)]

noncomputable def sem61 : CSem := sm61

/-! ### shunter/shunterlaw07.digits -/
noncomputable def law07_digits (n_0 : Int) : Option (((List Int) × Unit) × (Unit)) :=
  bif (decide (n_0 < 0)) then
    some (([], ()), ())
  else
  (ref01_Of 0 (IntKind.u64.wrap n_0)).bind fun r_3 =>
  (ref01_Text r_3.1.1 10).bind fun r_4 =>
  some ((r_4.1.1, ()), ())

noncomputable def sg29 : Sig := ⟨[.val (.int .i64)], [.val .str], []⟩
noncomputable def sm29 : CSem := mkSem sg29 fun x => law07_digits x.1
noncomputable def cf29 : Cfg := cf [(42, sem42), (61, sem61)] 9 0 []

noncomputable def sem29 : CSem := sm29

noncomputable def sg30 : Sig := ⟨[.val (.alt 60 (.ptr (.agg (.pair (.int .i64) (.pair (.int .i64) .unit)))) .nili)], [.val (.ptr (.agg (.pair (.int .i64) (.pair (.int .i64) .unit))))], []⟩
noncomputable def sm30 : CSem := mkSem sg30 fun x => wire_Only_8d8 x.1
noncomputable def cf30 : Cfg := cf [] 5 0 []

noncomputable def sem30 : CSem := sm30

/-! ### shunter/shunterlaw07.WireFaults -/
noncomputable def law07_WireFaults (b_0 : List Int) (n_1 : Int) : Option ((Bool × Unit) × (Unit)) :=
  bif (decide ((b_0.length : Int) > 500)) then
    law07_lives.bind fun r_3 =>
    some ((r_3.1.1, ()), ())
  else
  (wire_Reader_Fail_d6c () 4).bind fun r_4 =>
  (wire_Reader_Bad_d35 ()).bind fun r_5 =>
  bif !r_5.1.1 then
    some ((false, ()), ())
  else
  (wire_Reader_End_d35 ()).bind fun r_6 =>
  (wire_Why_8d8 r_6.1.1).bind fun r_7 =>
  (wire_Reader_Byte_d6c () 9).bind fun r_8 =>
  let t32_9 : Bool := !decide (r_8.1.1 = 0)
  guardR (!t32_9) (some ()) () fun _ =>
  guardR (!t32_9) (wire_Reader_Two_d6c () 9) ((0, ()), ()) fun r_10 =>
  guardR (!t32_9) (some (!decide (r_10.1.1 = 0))) false fun v_11 =>
  let t37_12 : Bool := bif t32_9 then true else v_11
  guardR (!t37_12) (some ()) () fun _ =>
  guardR (!t37_12) (wire_Reader_Four_d6c () 9) ((0, ()), ()) fun r_13 =>
  guardR (!t37_12) (some (!decide (r_13.1.1 = 0))) false fun v_14 =>
  let t42_15 : Bool := bif t37_12 then true else v_14
  guardR (!t42_15) (some ()) () fun _ =>
  guardR (!t42_15) (wire_Reader_Vec_d35 ()) (((0, 0, 0, ()), ()), ()) fun r_16 =>
  guardR (!t42_15) (some ()) () fun _ =>
  guardR (!t42_15) (some ()) () fun _ =>
  let t48_18 : Bool := bif t42_15 then true else (!(decide (r_16.1.1.1 = 0) && (decide (r_16.1.1.2.1 = 0) && decide (r_16.1.1.2.2.1 = 0))))
  guardR (!t48_18) (some ()) () fun _ =>
  guardR (!t48_18) (wire_Reader_Name_d35 ()) (([], ()), ()) fun r_19 =>
  guardR (!t48_18) (some (!decide (r_19.1.1 = []))) false fun v_20 =>
  let t53_21 : Bool := bif t48_18 then true else v_20
  guardR (!t53_21) (some ()) () fun _ =>
  guardR (!t53_21) (wire_Reader_Vecs_d6c () 9) (((), ()), ()) fun r_22 =>
  guardR (!t53_21) (some 0) 0 fun v_23 =>
  guardR (!t53_21) (some ()) () fun _ =>
  guardR (!t53_21) (wire_Reader_Numbers_639 () 9 9) (((), ()), ()) fun r_24 =>
  guardR (!t53_21) (some 0) 0 fun v_25 =>
  guardR (!t53_21) (some (IntKind.i64.wrap (v_23 + v_25))) 0 fun v_26 =>
  guardR (!t53_21) (some ()) () fun _ =>
  guardR (!t53_21) (wire_Reader_At_d35 ()) ((0, ()), ()) fun r_27 =>
  guardR (!t53_21) (some (IntKind.i64.wrap (v_26 + r_27.1.1))) 0 fun v_28 =>
  guardR (!t53_21) (some ()) () fun _ =>
  guardR (!t53_21) (wire_Reader_Left_d35 ()) ((0, ()), ()) fun r_29 =>
  guardR (!t53_21) (some (IntKind.i64.wrap (v_28 + r_29.1.1))) 0 fun v_30 =>
  guardR (!t53_21) (some (!decide (v_30 = 0))) false fun v_31 =>
  let t69_32 : Bool := bif t53_21 then true else v_31
  guardR (!t69_32) (some ()) () fun _ =>
  guardR (!t69_32) (some (!decide (r_7.1.1 = 1))) false fun v_33 =>
  let t73_34 : Bool := bif t69_32 then true else v_33
  guardR (!t73_34) (some ()) () fun _ =>
  guardR (!t73_34) (some (!decide (r_7.1.2.1 = 0))) false fun v_35 =>
  bif (bif t73_34 then true else v_35) then
    some ((false, ()), ())
  else
  (wire_Read b_0).bind fun r_37 =>
  (wire_Reader_Byte_db0 r_37.1.1 255).bind fun r_38 =>
  (wire_Reader_At_59d r_38.2.1).bind fun r_39 =>
  (wire_Reader_Fail_e57 r_39.2.1 5).bind fun r_40 =>
  (wire_Reader_End_59d r_40.2.1).bind fun r_41 =>
  let t93_42 : Option (Int × Int × Unit) := (getAlt0 r_41.1.1).getD none
  let t94_43 : Bool := (getAlt0 r_41.1.1).isSome
  guardR (!(!t94_43)) (some ()) () fun _ =>
  guardR (!(!t94_43)) (some (t93_42.isNone)) false fun v_44 =>
  bif (bif !t94_43 then true else v_44) then
    some ((false, ()), ())
  else
  (wire_Fault_Error_d35 ()).bind fun r_46 =>
  let t103_47 : Bool := !decide (r_46.1.1 = [])
  guardR (!t103_47) (some ()) () fun _ =>
  guardR (!t103_47) (wire_Fault_Error_bca t93_42) (([], ()), ()) fun r_48 =>
  guardR (!t103_47) (some ()) () fun _ =>
  guardR (!t103_47) t93_42 (0, 0, ()) fun v_49 =>
  guardR (!t103_47) (some v_49.1) 0 fun v_50 =>
  guardR (!t103_47) (some ()) () fun _ =>
  guardR (!t103_47) (law07_digits v_50) (([], ()), ()) fun r_51 =>
  guardR (!t103_47) (catI [102, 97, 117, 108, 116, 32] r_51.1.1) [] fun v_52 =>
  guardR (!t103_47) (catI v_52 [32, 97, 116, 32, 98, 121, 116, 101, 32]) [] fun v_53 =>
  guardR (!t103_47) (some ()) () fun _ =>
  guardR (!t103_47) t93_42 (0, 0, ()) fun v_54 =>
  guardR (!t103_47) (some v_54.2.1) 0 fun v_55 =>
  guardR (!t103_47) (some ()) () fun _ =>
  guardR (!t103_47) (law07_digits v_55) (([], ()), ()) fun r_56 =>
  guardR (!t103_47) (catI v_53 r_56.1.1) [] fun v_57 =>
  guardR (!t103_47) (some (!decide (r_48.1.1 = v_57))) false fun v_58 =>
  bif (bif t103_47 then true else v_58) then
    some ((false, ()), ())
  else
  (wire_Only_8d8 r_41.1.1).bind fun r_60 =>
  bif (decide ((b_0.length : Int) = 0)) then
    t93_42.bind fun v_63 =>
    let t131_64 : Bool := decide (v_63.1 = 3)
    guardR t131_64 (some ()) () fun _ =>
    guardR t131_64 t93_42 (0, 0, ()) fun v_65 =>
    guardR t131_64 (some v_65.2.1) 0 fun v_66 =>
    guardR t131_64 (some ()) () fun _ =>
    guardR t131_64 (some (decide (v_66 = 0))) false fun v_67 =>
    let t138_68 : Bool := bif t131_64 then v_67 else false
    guardR t138_68 (some ()) () fun _ =>
    guardR t138_68 r_60.1.1 (0, 0, ()) fun v_69 =>
    guardR t138_68 (some v_69.1) 0 fun v_70 =>
    guardR t138_68 (some ()) () fun _ =>
    guardR t138_68 (some ()) () fun _ =>
    guardR t138_68 t93_42 (0, 0, ()) fun v_71 =>
    guardR t138_68 (some v_71.1) 0 fun v_72 =>
    guardR t138_68 (some ()) () fun _ =>
    guardR t138_68 (some (decide (v_70 = v_72))) false fun v_73 =>
    let t149_74 : Bool := bif t138_68 then v_73 else false
    guardR t149_74 law07_lives ((false, ()), ()) fun r_75 =>
    some (((bif t149_74 then r_75.1.1 else false), ()), ())
  else
  t93_42.bind fun v_77 =>
  let t157_78 : Bool := decide (v_77.1 = 5)
  guardR t157_78 (some ()) () fun _ =>
  guardR t157_78 t93_42 (0, 0, ()) fun v_79 =>
  guardR t157_78 (some v_79.2.1) 0 fun v_80 =>
  guardR t157_78 (some ()) () fun _ =>
  guardR t157_78 (some ()) () fun _ =>
  guardR t157_78 (some (decide (v_80 = r_39.1.1))) false fun v_81 =>
  let t165_82 : Bool := bif t157_78 then v_81 else false
  guardR t165_82 (some ()) () fun _ =>
  guardR t165_82 r_60.1.1 (0, 0, ()) fun v_83 =>
  guardR t165_82 (some v_83.1) 0 fun v_84 =>
  guardR t165_82 (some ()) () fun _ =>
  guardR t165_82 (some ()) () fun _ =>
  guardR t165_82 t93_42 (0, 0, ()) fun v_85 =>
  guardR t165_82 (some v_85.1) 0 fun v_86 =>
  guardR t165_82 (some ()) () fun _ =>
  guardR t165_82 (some (decide (v_84 = v_86))) false fun v_87 =>
  let t176_88 : Bool := bif t165_82 then v_87 else false
  guardR t176_88 (some ()) () fun _ =>
  guardR t176_88 r_60.1.1 (0, 0, ()) fun v_89 =>
  guardR t176_88 (some v_89.2.1) 0 fun v_90 =>
  guardR t176_88 (some ()) () fun _ =>
  guardR t176_88 (some ()) () fun _ =>
  guardR t176_88 t93_42 (0, 0, ()) fun v_91 =>
  guardR t176_88 (some v_91.2.1) 0 fun v_92 =>
  guardR t176_88 (some ()) () fun _ =>
  guardR t176_88 (some (decide (v_90 = v_92))) false fun v_93 =>
  let t187_94 : Bool := bif t176_88 then v_93 else false
  guardR t187_94 (some ()) () fun _ =>
  guardR t187_94 (some ()) () fun _ =>
  guardR t187_94 (wire_Reader_Byte_e57 r_41.2.1 n_1) ((0, ()), (([], 0, none, ()), ()), ()) fun r_95 =>
  guardR t187_94 (some (decide (r_95.1.1 = 0))) false fun v_96 =>
  let t193_97 : Bool := bif t187_94 then v_96 else false
  guardR t193_97 (some ()) () fun _ =>
  guardR t193_97 (wire_Reader_At_59d (bif t187_94 then r_95.2.1 else r_41.2.1)) ((0, ()), (([], 0, none, ()), ()), ()) fun r_98 =>
  guardR t193_97 (some ()) () fun _ =>
  guardR t193_97 (some (decide (r_98.1.1 = r_39.1.1))) false fun v_99 =>
  let t199_100 : Bool := bif t193_97 then v_99 else false
  guardR t199_100 law07_lives ((false, ()), ()) fun r_101 =>
  some (((bif t199_100 then r_101.1.1 else false), ()), ())

noncomputable def sg6 : Sig := ⟨[.val (.slice (.int .u8)), .val (.int .i64)], [.val .bool], []⟩
noncomputable def sm6 : CSem := mkSem sg6 fun x => law07_WireFaults x.1 x.2.1
noncomputable def cf6 : Cfg := cf [(8, sem8), (25, sem25), (23, sem23), (19, sem19), (18, sem18), (13, sem13), (14, sem14), (15, sem15), (16, sem16), (17, sem17), (26, sem26), (27, sem27), (22, sem22), (20, sem20), (12, sem12), (28, sem28), (29, sem29), (30, sem30)] 203 0 []

noncomputable def sem6 : CSem := sm6

end Go.Proofs.Ytffgheglileflaa

namespace Go.Proofs.Ytffgheglileflaa
open Go Go.Pv Go.Proofs Go.L
set_option maxRecDepth 100000

theorem r51 (word_Shl : (Int × Int × Unit) → Int → Option (((Int × Int × Unit) × Unit) × (Unit))) (word_Shr : (Int × Int × Unit) → Int → Option (((Int × Int × Unit) × Unit) × (Unit))) (x : ArgT ag51) : runFAM (cf51 word_Shl word_Shr) ag51 al51 (bodyOf Try.f51) [(4, some 91)] x = word_Shl_g word_Shl word_Shr x.1 x.2.1 := by kernel_rfl

theorem r27 (x : ArgT sg27.args) : runFM cf27 sg27 (bodyOf Try.f27) [6] x = wire_Reader_Numbers_639 x.1 x.2.1 x.2.2.1 := by kernel_rfl

theorem r46 (x : ArgT sg46.args) : runFM cf46 sg46 (bodyOf Try.f46) [6] x = wire_Reader_number_639 x.1 x.2.1 x.2.2.1 := by kernel_rfl

theorem r48a (x : ArgT sg48a.args) : runFM cf48a sg48a (bodyOf Try.f48) [4, 5] x = wire_cursor_take_c4f x.1 x.2.1 := by kernel_rfl

theorem r91 (x : ArgT sg91.args) : runFM cf91 sg91 (bodyOf Try.f91) [6, 7] x = bits_Div64 x.1 x.2.1 x.2.2.1 := by kernel_rfl

theorem r39 (x : ArgT sg39.args) : runFM cf39 sg39 (bodyOf Try.f39) [4] x = wire_Vecs x.1 x.2.1 := by kernel_rfl

theorem r79 (x : ArgT sg79.args) : runFM cf79 sg79 (bodyOf Try.f79) [2, 3] x = ref01_Halves x.1 := by kernel_rfl

theorem r31 (x : ArgT sg31.args) : runFM cf31 sg31 (bodyOf Try.f31) [4] x = wire_Vec x.1 x.2.1 := by kernel_rfl

theorem r45 (x : ArgT sg45.args) : runFM cf45 sg45 (bodyOf Try.f45) [2] x = bytes_Clone x.1 := by kernel_rfl

theorem r3 (x : ArgT sg3.args) : runFM cf3 sg3 (bodyOf Try.f3) [2] x = law07_WireWrites x.1 := by kernel_rfl

theorem r66 (x : ArgT sg66.args) : runFM cf66 sg66 (bodyOf Try.f66) [2] x = ref02_Bits x.1 := by kernel_rfl

theorem r36 (x : ArgT sg36.args) : runFM cf36 sg36 (bodyOf Try.f36) [2] x = ref07_Vec x.1 := by kernel_rfl

theorem r7 (x : ArgT sg7.args) : runFM cf7 sg7 (bodyOf Try.f7) [2] x = law07_light x.1 := by kernel_rfl

end Go.Proofs.Ytffgheglileflaa

namespace Go.Proofs.Ytffgheglileflaa
open Go Go.Pv Go.Proofs Go.L
set_option maxRecDepth 100000

theorem r64 (word_Shl : (Int × Int × Unit) → Int → Option (((Int × Int × Unit) × Unit) × (Unit))) (word_Shr : (Int × Int × Unit) → Int → Option (((Int × Int × Unit) × Unit) × (Unit))) (x : ArgT ag64) : runFAM (cf64 word_Shl word_Shr) ag64 al64 (bodyOf Try.f64) [(4, some 91)] x = word_Shr_g word_Shl word_Shr x.1 x.2.1 := by kernel_rfl

theorem r77 (x : ArgT ag77) : runFAM cf77 ag77 al77 (bodyOf Try.f77) [(4, some 77), (5, some 77)] x = ref01_Part x.1 x.2.1 := by kernel_rfl

theorem r89 (x : ArgT ag89) : runFAM cf89 ag89 al89 (bodyOf Try.f89) [(4, some 77), (5, none)] x = ref01_Minus x.1 x.2.1 := by kernel_rfl

theorem r58a (x : ArgT sg58a.args) : runFM cf58a sg58a (bodyOf Try.f58) [] x = wire_cursor_fail_ba6 x.1 x.2.1 x.2.2.1 := by kernel_rfl

theorem r58 (x : ArgT sg58.args) : runFM cf58 sg58 (bodyOf Try.f58) [] x = wire_cursor_fail_36a x.1 x.2.1 x.2.2.1 := by kernel_rfl

theorem r16 (x : ArgT ag16) : runFAM cf16 ag16 al16 (bodyOf Try.f16) [(2, some 30)] x = wire_Reader_Vec_d35 x.1 := by kernel_rfl

theorem r13a (x : ArgT sg13a.args) : runFM cf13a sg13a (bodyOf Try.f13) [4] x = wire_Reader_Byte_db0 x.1 x.2.1 := by kernel_rfl

theorem r48 (x : ArgT sg48.args) : runFM cf48 sg48 (bodyOf Try.f48) [4, 5] x = wire_cursor_take_1ca x.1 x.2.1 := by kernel_rfl

theorem r13 (x : ArgT sg13.args) : runFM cf13 sg13 (bodyOf Try.f13) [4] x = wire_Reader_Byte_d6c x.1 x.2.1 := by kernel_rfl

theorem r15 (x : ArgT sg15.args) : runFM cf15 sg15 (bodyOf Try.f15) [4] x = wire_Reader_Four_d6c x.1 x.2.1 := by kernel_rfl

theorem r26 (x : ArgT sg26.args) : runFM cf26 sg26 (bodyOf Try.f26) [4] x = wire_Reader_Vecs_d6c x.1 x.2.1 := by kernel_rfl

theorem r25 (x : ArgT sg25.args) : runFM cf25 sg25 (bodyOf Try.f25) [] x = wire_Reader_Fail_d6c x.1 x.2.1 := by kernel_rfl

theorem r14 (x : ArgT sg14.args) : runFM cf14 sg14 (bodyOf Try.f14) [4] x = wire_Reader_Two_d6c x.1 x.2.1 := by kernel_rfl

theorem r28a (x : ArgT sg28a.args) : runFM cf28a sg28a (bodyOf Try.f28) [2] x = wire_Fault_Error_bca x.1 := by kernel_rfl

theorem r78 (x : ArgT ag78) : runFAM cf78 ag78 al78 (bodyOf Try.f78) [(2, some 77)] x = ref01_small x.1 := by kernel_rfl

theorem r63 (x : ArgT sg63.args) : runFM cf63 sg63 (bodyOf Try.f63) [6] x = wire_put x.1 x.2.1 x.2.2.1 := by kernel_rfl

theorem r23 (x : ArgT sg23.args) : runFM cf23 sg23 (bodyOf Try.f23) [2] x = wire_Reader_Bad_d35 x.1 := by kernel_rfl

theorem r33 (x : ArgT sg33.args) : runFM cf33 sg33 (bodyOf Try.f33) [4] x = ref07_Number x.1 x.2.1 := by kernel_rfl

theorem r88 (x : ArgT sg88.args) : runFM cf88 sg88 (bodyOf Try.f88) [4] x = ref01_Less x.1 x.2.1 := by kernel_rfl

theorem r32 (x : ArgT sg32.args) : runFM cf32 sg32 (bodyOf Try.f32) [4] x = wire_Byte x.1 x.2.1 := by kernel_rfl

theorem r35 (x : ArgT sg35.args) : runFM cf35 sg35 (bodyOf Try.f35) [4] x = wire_Four x.1 x.2.1 := by kernel_rfl

theorem r9 (x : ArgT sg9.args) : runFM cf9 sg9 (bodyOf Try.f9) [4, 5] x = law07_write x.1 x.2.1 := by kernel_rfl

theorem r60 (x : ArgT sg60.args) : runFM cf60 sg60 (bodyOf Try.f60) [2] x = wire_digits x.1 := by kernel_rfl

theorem r90 (x : ArgT sg90.args) : runFM cf90 sg90 (bodyOf Try.f90) [2] x = bits_Len64 x.1 := by kernel_rfl

end Go.Proofs.Ytffgheglileflaa

namespace Go.Proofs.Ytffgheglileflaa
open Go Go.Pv Go.Proofs Go.L
set_option maxRecDepth 100000

theorem r86 (x : ArgT ag86) : runFAM cf86 ag86 al86 (bodyOf Try.f86) [(4, some 91), (5, none), (6, none)] x = word_Div x.1 x.2.1 := by kernel_rfl

theorem r46a (x : ArgT sg46a.args) : runFM cf46a sg46a (bodyOf Try.f46) [6] x = wire_Reader_number_395 x.1 x.2.1 x.2.2.1 := by kernel_rfl

theorem r46b (x : ArgT sg46b.args) : runFM cf46b sg46b (bodyOf Try.f46) [6] x = wire_Reader_number_28a x.1 x.2.1 x.2.2.1 := by kernel_rfl

theorem r25a (x : ArgT sg25a.args) : runFM cf25a sg25a (bodyOf Try.f25) [] x = wire_Reader_Fail_e57 x.1 x.2.1 := by kernel_rfl

theorem r42 (x : ArgT ag42) : runFAM cf42 ag42 al42 (bodyOf Try.f42) [(4, some 77)] x = ref01_Of x.1 x.2.1 := by kernel_rfl

theorem r20a (x : ArgT sg20a.args) : runFM cf20a sg20a (bodyOf Try.f20) [2] x = wire_Reader_Left_59d x.1 := by kernel_rfl

theorem r93 (x : ArgT ag93) : runFAM cf93 ag93 al93 (bodyOf Try.f93) [(2, some 77)] x = ref01_Turned x.1 := by kernel_rfl

theorem r81 (x : ArgT sg81.args) : runFM cf81 sg81 (bodyOf Try.f81) [2] x = slices_Clip_byte_byte x.1 := by kernel_rfl

theorem r20 (x : ArgT sg20.args) : runFM cf20 sg20 (bodyOf Try.f20) [2] x = wire_Reader_Left_d35 x.1 := by kernel_rfl

theorem r17 (x : ArgT sg17.args) : runFM cf17 sg17 (bodyOf Try.f17) [2] x = wire_Reader_Name_d35 x.1 := by kernel_rfl

theorem r19 (x : ArgT sg19.args) : runFM cf19 sg19 (bodyOf Try.f19) [2] x = wire_Reader_End_d35 x.1 := by kernel_rfl

theorem r40 (x : ArgT sg40.args) : runFM cf40 sg40 (bodyOf Try.f40) [4] x = wire_Numbers x.1 x.2.1 := by kernel_rfl

theorem r61 (x : ArgT sg61.args) : runFM cf61 sg61 (bodyOf Try.f61) [4] x = ref01_Text x.1 x.2.1 := by kernel_rfl

theorem r37 (x : ArgT sg37.args) : runFM cf37 sg37 (bodyOf Try.f37) [4] x = wire_Name x.1 x.2.1 := by kernel_rfl

theorem r18 (x : ArgT sg18.args) : runFM cf18 sg18 (bodyOf Try.f18) [2, 3] x = wire_Why_8d8 x.1 := by kernel_rfl

theorem r76 (x : ArgT sg76.args) : runFM cf76 sg76 (bodyOf Try.f76) [4] x = word_Text x.1 x.2.1 := by kernel_rfl

theorem r34 (x : ArgT sg34.args) : runFM cf34 sg34 (bodyOf Try.f34) [4] x = wire_Two x.1 x.2.1 := by kernel_rfl

theorem r30 (x : ArgT sg30.args) : runFM cf30 sg30 (bodyOf Try.f30) [2] x = wire_Only_8d8 x.1 := by kernel_rfl

theorem r29 (x : ArgT sg29.args) : runFM cf29 sg29 (bodyOf Try.f29) [2] x = law07_digits x.1 := by kernel_rfl

theorem r67 (x : ArgT sg67.args) : runFM cf67 sg67 (bodyOf Try.f67) [2] x = ref03_Bytes x.1 := by kernel_rfl

theorem r85 (x : ArgT sg85.args) : runFM cf85 sg85 (bodyOf Try.f85) [2] x = word_based x.1 := by kernel_rfl

theorem r49 (x : ArgT sg49.args) : runFM cf49 sg49 (bodyOf Try.f49) [2] x = wire_room x.1 := by kernel_rfl

theorem r41 (x : ArgT sg41.args) : runFM cf41 sg41 (bodyOf Try.f41) [2] x = ref01_Len x.1 := by kernel_rfl

theorem r12 (x : ArgT sg12.args) : runFM cf12 sg12 (bodyOf Try.f12) [2] x = wire_Read x.1 := by kernel_rfl

theorem r80 (x : ArgT sg80.args) : runFM cf80 sg80 (bodyOf Try.f80) [2] x = word_Len x.1 := by kernel_rfl

theorem r62 (x : ArgT sg62.args) : runFM cf62 sg62 (bodyOf Try.f62) [2] x = vec_May x.1 := by kernel_rfl

theorem r8 (x : ArgT sg8.args) : runFM cf8 sg8 (bodyOf Try.f8) [0] x = law07_lives := by kernel_rfl

end Go.Proofs.Ytffgheglileflaa

namespace Go.Proofs.Ytffgheglileflaa
open Go Go.Pv Go.Proofs Go.L
set_option maxRecDepth 100000

theorem r92 (x : ArgT ag92) : runFAM cf92 ag92 al92 (bodyOf Try.f92) [(6, some 77), (7, none)] x = ref01_Sum x.1 x.2.1 x.2.2.1 := by kernel_rfl

theorem r13b (x : ArgT sg13b.args) : runFM cf13b sg13b (bodyOf Try.f13) [4] x = wire_Reader_Byte_e57 x.1 x.2.1 := by kernel_rfl

theorem r87 (x : ArgT ag87) : runFAM cf87 ag87 al87 (bodyOf Try.f87) [(4, some 77)] x = ref01_Moved x.1 x.2.1 := by kernel_rfl

theorem r19a (x : ArgT sg19a.args) : runFM cf19a sg19a (bodyOf Try.f19) [2] x = wire_Reader_End_59d x.1 := by kernel_rfl

theorem r22a (x : ArgT sg22a.args) : runFM cf22a sg22a (bodyOf Try.f22) [2] x = wire_Reader_At_59d x.1 := by kernel_rfl

theorem r65 (x : ArgT ag65) : runFAM cf65 ag65 al65 (bodyOf Try.f65) [(2, some 91)] x = vec_Word x.1 := by kernel_rfl

theorem r28 (x : ArgT sg28.args) : runFM cf28 sg28 (bodyOf Try.f28) [2] x = wire_Fault_Error_d35 x.1 := by kernel_rfl

theorem r94 (x : ArgT sg94.args) : runFM cf94 sg94 (bodyOf Try.f94) [2] x = bits_LeadingZeros64 x.1 := by kernel_rfl

theorem r22 (x : ArgT sg22.args) : runFM cf22 sg22 (bodyOf Try.f22) [2] x = wire_Reader_At_d35 x.1 := by kernel_rfl

theorem r6 (x : ArgT sg6.args) : runFM cf6 sg6 (bodyOf Try.f6) [4] x = law07_WireFaults x.1 x.2.1 := by kernel_rfl

theorem r38 (x : ArgT sg38.args) : runFM cf38 sg38 (bodyOf Try.f38) [2] x = ref07_Name x.1 := by kernel_rfl

theorem r70 (x : ArgT sg70.args) : runFM cf70 sg70 (bodyOf Try.f70) [2] x = vec_width x.1 := by kernel_rfl

theorem r10 (x : ArgT sg10.args) : runFM cf10 sg10 (bodyOf Try.f10) [2] x = ref02_May x.1 := by kernel_rfl

theorem r68 (x : ArgT sg68.args) : runFM cf68 sg68 (bodyOf Try.f68) [2] x = ref03_Of x.1 := by kernel_rfl

end Go.Proofs.Ytffgheglileflaa

namespace Go.Proofs.Ytffgheglileflaa
open Go Go.Pv Go.Proofs Go.L
set_option maxRecDepth 100000

theorem c7 : Contract Try.prog 7 sm7 :=
  contract_ofM (C := cf7) (fun f sem h => (Tab.nil : Tab _) _ (lk_mem' h)) (S := sg7) (fn := Try.f7) (c := bodyOf Try.f7) (ts := [2]) Try.func7 (by kernel_rfl) (by kernel_rfl) (by kernel_rfl) (by kernel_rfl) (by kernel_rfl) (by kernel_rfl) (by kernel_rfl) r7

theorem k7 : Contract Try.prog 7 sem7 := c7

theorem c70 : Contract Try.prog 70 sm70 :=
  contract_ofM (C := cf70) (fun f sem h => (Tab.nil : Tab _) _ (lk_mem' h)) (S := sg70) (fn := Try.f70) (c := bodyOf Try.f70) (ts := [2]) Try.func70 (by kernel_rfl) (by kernel_rfl) (by kernel_rfl) (by kernel_rfl) (by kernel_rfl) (by kernel_rfl) (by kernel_rfl) r70

theorem k70 : Contract Try.prog 70 sem70 := c70

theorem c65 : Contract Try.prog 65 sm65 :=
  contract_ofAM (C := cf65) (fun f sem h => (Tab.nil : Tab _) _ (lk_mem' h)) (args := ag65) (alts := al65) (fn := Try.f65) (c := bodyOf Try.f65) (ts := [(2, some 91)]) Try.func65 (by kernel_rfl) (by kernel_rfl) (by kernel_rfl) (by kernel_rfl) (by kernel_rfl) (by kernel_rfl) (by kernel_rfl) r65

theorem k65 : Contract Try.prog 65 sem65 := c65

theorem c90 : Contract Try.prog 90 sm90 :=
  contract_ofM (C := cf90) (fun f sem h => (Tab.nil : Tab _) _ (lk_mem' h)) (S := sg90) (fn := Try.f90) (c := bodyOf Try.f90) (ts := [2]) Try.func90 (by kernel_rfl) (by kernel_rfl) (by kernel_rfl) (by kernel_rfl) (by kernel_rfl) (by kernel_rfl) (by kernel_rfl) r90

theorem k90 : Contract Try.prog 90 sem90 := c90

theorem c80 : Contract Try.prog 80 sm80 :=
  contract_ofM (C := cf80) (fun f sem h => (Tab.cons k90 Tab.nil : Tab _) _ (lk_mem' h)) (S := sg80) (fn := Try.f80) (c := bodyOf Try.f80) (ts := [2]) Try.func80 (by kernel_rfl) (by kernel_rfl) (by kernel_rfl) (by kernel_rfl) (by kernel_rfl) (by kernel_rfl) (by kernel_rfl) r80

theorem k80 : Contract Try.prog 80 sem80 := c80

theorem c62 : Contract Try.prog 62 sm62 :=
  contract_ofM (C := cf62) (fun f sem h => (Tab.cons k70 (Tab.cons k65 (Tab.cons k80 Tab.nil)) : Tab _) _ (lk_mem' h)) (S := sg62) (fn := Try.f62) (c := bodyOf Try.f62) (ts := [2]) Try.func62 (by kernel_rfl) (by kernel_rfl) (by kernel_rfl) (by kernel_rfl) (by kernel_rfl) (by kernel_rfl) (by kernel_rfl) r62

theorem k62 : Contract Try.prog 62 sem62 := c62

theorem c45 : Contract Try.prog 45 sm45 :=
  contract_ofM (C := cf45) (fun f sem h => (Tab.nil : Tab _) _ (lk_mem' h)) (S := sg45) (fn := Try.f45) (c := bodyOf Try.f45) (ts := [2]) Try.func45 (by kernel_rfl) (by kernel_rfl) (by kernel_rfl) (by kernel_rfl) (by kernel_rfl) (by kernel_rfl) (by kernel_rfl) r45

theorem k45 : Contract Try.prog 45 sem45 := c45

theorem c81 : Contract Try.prog 81 sm81 :=
  contract_ofM (C := cf81) (fun f sem h => (Tab.nil : Tab _) _ (lk_mem' h)) (S := sg81) (fn := Try.f81) (c := bodyOf Try.f81) (ts := [2]) Try.func81 (by kernel_rfl) (by kernel_rfl) (by kernel_rfl) (by kernel_rfl) (by kernel_rfl) (by kernel_rfl) (by kernel_rfl) r81

theorem k81 : Contract Try.prog 81 sem81 := c81

theorem c63 : Contract Try.prog 63 sm63 :=
  contract_ofM (C := cf63) (fun f sem h => (Tab.cons k45 (Tab.cons k81 Tab.nil) : Tab _) _ (lk_mem' h)) (S := sg63) (fn := Try.f63) (c := bodyOf Try.f63) (ts := [6]) Try.func63 (by kernel_rfl) (by kernel_rfl) (by kernel_rfl) (by kernel_rfl) (by kernel_rfl) (by kernel_rfl) (by kernel_rfl) r63

theorem k63 : Contract Try.prog 63 sem63 := c63

theorem c49 : Contract Try.prog 49 sm49 :=
  contract_ofM (C := cf49) (fun f sem h => (Tab.nil : Tab _) _ (lk_mem' h)) (S := sg49) (fn := Try.f49) (c := bodyOf Try.f49) (ts := [2]) Try.func49 (by kernel_rfl) (by kernel_rfl) (by kernel_rfl) (by kernel_rfl) (by kernel_rfl) (by kernel_rfl) (by kernel_rfl) r49

theorem k49 : Contract Try.prog 49 sem49 := c49

theorem c51S (word_Shl : (Int × Int × Unit) → Int → Option (((Int × Int × Unit) × Unit) × (Unit))) (word_Shr : (Int × Int × Unit) → Int → Option (((Int × Int × Unit) × Unit) × (Unit))) (h51 : Contract Try.prog 51 (sm51 word_Shl)) (h64 : Contract Try.prog 64 (sm64 word_Shr)) : Contract Try.prog 51 (sm51 (word_Shl_g word_Shl word_Shr)) :=
  contract_ofAM (C := cf51 word_Shl word_Shr) (fun f sem h => (Tab.cons h64 Tab.nil : Tab _) _ (lk_mem' h)) (args := ag51) (alts := al51) (fn := Try.f51) (c := bodyOf Try.f51) (ts := [(4, some 91)]) Try.func51 (by kernel_rfl) (by kernel_rfl) (by kernel_rfl) (by kernel_rfl) (by kernel_rfl) (by kernel_rfl) (by kernel_rfl) (r51 word_Shl word_Shr)
theorem c64S (word_Shl : (Int × Int × Unit) → Int → Option (((Int × Int × Unit) × Unit) × (Unit))) (word_Shr : (Int × Int × Unit) → Int → Option (((Int × Int × Unit) × Unit) × (Unit))) (h51 : Contract Try.prog 51 (sm51 word_Shl)) (h64 : Contract Try.prog 64 (sm64 word_Shr)) : Contract Try.prog 64 (sm64 (word_Shr_g word_Shl word_Shr)) :=
  contract_ofAM (C := cf64 word_Shl word_Shr) (fun f sem h => (Tab.cons h51 Tab.nil : Tab _) _ (lk_mem' h)) (args := ag64) (alts := al64) (fn := Try.f64) (c := bodyOf Try.f64) (ts := [(4, some 91)]) Try.func64 (by kernel_rfl) (by kernel_rfl) (by kernel_rfl) (by kernel_rfl) (by kernel_rfl) (by kernel_rfl) (by kernel_rfl) (r64 word_Shl word_Shr)
theorem lc64 : ∀ k, Contract Try.prog 51 (sm51 ((word_Shr_lv k).1)) ∧ Contract Try.prog 64 (sm64 ((word_Shr_lv k).2))
  | 0 => ⟨(by intro avs s hs r hr w B os ow vs _ _; obtain ⟨x, hx, rfl⟩ := Option.map_eq_some_iff.1 hs; cases hr), (by intro avs s hs r hr w B os ow vs _ _; obtain ⟨x, hx, rfl⟩ := Option.map_eq_some_iff.1 hs; cases hr)⟩
  | k + 1 => by
    have ih := lc64 k
    exact ⟨c51S _ _ ih.1 ih.2, c64S _ _ ih.1 ih.2⟩
theorem c51 : Contract Try.prog 51 (sm51 word_Shl) := (lc64 3).1
theorem c64 : Contract Try.prog 64 (sm64 word_Shr) := (lc64 3).2

theorem k51 : Contract Try.prog 51 sem51 := c51

theorem k64 : Contract Try.prog 64 sem64 := c64

theorem c31 : Contract Try.prog 31 sm31 :=
  contract_ofM (C := cf31) (fun f sem h => (Tab.cons k62 (Tab.cons k63 (Tab.cons k49 (Tab.cons k65 (Tab.cons k64 Tab.nil)))) : Tab _) _ (lk_mem' h)) (S := sg31) (fn := Try.f31) (c := bodyOf Try.f31) (ts := [4]) Try.func31 (by kernel_rfl) (by kernel_rfl) (by kernel_rfl) (by kernel_rfl) (by kernel_rfl) (by kernel_rfl) (by kernel_rfl) r31

theorem k31 : Contract Try.prog 31 sem31 := c31

theorem c8 : Contract Try.prog 8 sm8 :=
  contract_ofM (C := cf8) (fun f sem h => (Tab.cons k31 Tab.nil : Tab _) _ (lk_mem' h)) (S := sg8) (fn := Try.f8) (c := bodyOf Try.f8) (ts := [0]) Try.func8 (by kernel_rfl) (by kernel_rfl) (by kernel_rfl) (by kernel_rfl) (by kernel_rfl) (by kernel_rfl) (by kernel_rfl) r8

theorem k8 : Contract Try.prog 8 sem8 := c8

theorem c32 : Contract Try.prog 32 sm32 :=
  contract_ofM (C := cf32) (fun f sem h => (Tab.cons k63 Tab.nil : Tab _) _ (lk_mem' h)) (S := sg32) (fn := Try.f32) (c := bodyOf Try.f32) (ts := [4]) Try.func32 (by kernel_rfl) (by kernel_rfl) (by kernel_rfl) (by kernel_rfl) (by kernel_rfl) (by kernel_rfl) (by kernel_rfl) r32

theorem k32 : Contract Try.prog 32 sem32 := c32

theorem c42 : Contract Try.prog 42 sm42 :=
  contract_ofAM (C := cf42) (fun f sem h => (Tab.nil : Tab _) _ (lk_mem' h)) (args := ag42) (alts := al42) (fn := Try.f42) (c := bodyOf Try.f42) (ts := [(4, some 77)]) Try.func42 (by kernel_rfl) (by kernel_rfl) (by kernel_rfl) (by kernel_rfl) (by kernel_rfl) (by kernel_rfl) (by kernel_rfl) r42

theorem k42 : Contract Try.prog 42 sem42 := c42

theorem c66 : Contract Try.prog 66 sm66 :=
  contract_ofM (C := cf66) (fun f sem h => (Tab.cons k42 Tab.nil : Tab _) _ (lk_mem' h)) (S := sg66) (fn := Try.f66) (c := bodyOf Try.f66) (ts := [2]) Try.func66 (by kernel_rfl) (by kernel_rfl) (by kernel_rfl) (by kernel_rfl) (by kernel_rfl) (by kernel_rfl) (by kernel_rfl) r66

theorem k66 : Contract Try.prog 66 sem66 := c66

theorem c67 : Contract Try.prog 67 sm67 :=
  contract_ofM (C := cf67) (fun f sem h => (Tab.nil : Tab _) _ (lk_mem' h)) (S := sg67) (fn := Try.f67) (c := bodyOf Try.f67) (ts := [2]) Try.func67 (by kernel_rfl) (by kernel_rfl) (by kernel_rfl) (by kernel_rfl) (by kernel_rfl) (by kernel_rfl) (by kernel_rfl) r67

theorem k67 : Contract Try.prog 67 sem67 := c67

theorem c33 : Contract Try.prog 33 sm33 :=
  contract_ofM (C := cf33) (fun f sem h => (Tab.cons k66 (Tab.cons k67 Tab.nil) : Tab _) _ (lk_mem' h)) (S := sg33) (fn := Try.f33) (c := bodyOf Try.f33) (ts := [4]) Try.func33 (by kernel_rfl) (by kernel_rfl) (by kernel_rfl) (by kernel_rfl) (by kernel_rfl) (by kernel_rfl) (by kernel_rfl) r33

theorem k33 : Contract Try.prog 33 sem33 := c33

theorem c34 : Contract Try.prog 34 sm34 :=
  contract_ofM (C := cf34) (fun f sem h => (Tab.cons k63 Tab.nil : Tab _) _ (lk_mem' h)) (S := sg34) (fn := Try.f34) (c := bodyOf Try.f34) (ts := [4]) Try.func34 (by kernel_rfl) (by kernel_rfl) (by kernel_rfl) (by kernel_rfl) (by kernel_rfl) (by kernel_rfl) (by kernel_rfl) r34

theorem k34 : Contract Try.prog 34 sem34 := c34

theorem c35 : Contract Try.prog 35 sm35 :=
  contract_ofM (C := cf35) (fun f sem h => (Tab.cons k63 Tab.nil : Tab _) _ (lk_mem' h)) (S := sg35) (fn := Try.f35) (c := bodyOf Try.f35) (ts := [4]) Try.func35 (by kernel_rfl) (by kernel_rfl) (by kernel_rfl) (by kernel_rfl) (by kernel_rfl) (by kernel_rfl) (by kernel_rfl) r35

theorem k35 : Contract Try.prog 35 sem35 := c35

theorem c41 : Contract Try.prog 41 sm41 :=
  contract_ofM (C := cf41) (fun f sem h => (Tab.nil : Tab _) _ (lk_mem' h)) (S := sg41) (fn := Try.f41) (c := bodyOf Try.f41) (ts := [2]) Try.func41 (by kernel_rfl) (by kernel_rfl) (by kernel_rfl) (by kernel_rfl) (by kernel_rfl) (by kernel_rfl) (by kernel_rfl) r41

theorem k41 : Contract Try.prog 41 sem41 := c41

theorem c10 : Contract Try.prog 10 sm10 :=
  contract_ofM (C := cf10) (fun f sem h => (Tab.cons k42 (Tab.cons k41 Tab.nil) : Tab _) _ (lk_mem' h)) (S := sg10) (fn := Try.f10) (c := bodyOf Try.f10) (ts := [2]) Try.func10 (by kernel_rfl) (by kernel_rfl) (by kernel_rfl) (by kernel_rfl) (by kernel_rfl) (by kernel_rfl) (by kernel_rfl) r10

theorem k10 : Contract Try.prog 10 sem10 := c10

theorem c68 : Contract Try.prog 68 sm68 :=
  contract_ofM (C := cf68) (fun f sem h => (Tab.cons k66 Tab.nil : Tab _) _ (lk_mem' h)) (S := sg68) (fn := Try.f68) (c := bodyOf Try.f68) (ts := [2]) Try.func68 (by kernel_rfl) (by kernel_rfl) (by kernel_rfl) (by kernel_rfl) (by kernel_rfl) (by kernel_rfl) (by kernel_rfl) r68

theorem k68 : Contract Try.prog 68 sem68 := c68

theorem c36 : Contract Try.prog 36 sm36 :=
  contract_ofM (C := cf36) (fun f sem h => (Tab.cons k10 (Tab.cons k68 (Tab.cons k67 Tab.nil)) : Tab _) _ (lk_mem' h)) (S := sg36) (fn := Try.f36) (c := bodyOf Try.f36) (ts := [2]) Try.func36 (by kernel_rfl) (by kernel_rfl) (by kernel_rfl) (by kernel_rfl) (by kernel_rfl) (by kernel_rfl) (by kernel_rfl) r36

theorem k36 : Contract Try.prog 36 sem36 := c36

theorem c37 : Contract Try.prog 37 sm37 :=
  contract_ofM (C := cf37) (fun f sem h => (Tab.cons k63 Tab.nil : Tab _) _ (lk_mem' h)) (S := sg37) (fn := Try.f37) (c := bodyOf Try.f37) (ts := [4]) Try.func37 (by kernel_rfl) (by kernel_rfl) (by kernel_rfl) (by kernel_rfl) (by kernel_rfl) (by kernel_rfl) (by kernel_rfl) r37

theorem k37 : Contract Try.prog 37 sem37 := c37

theorem c38 : Contract Try.prog 38 sm38 :=
  contract_ofM (C := cf38) (fun f sem h => (Tab.nil : Tab _) _ (lk_mem' h)) (S := sg38) (fn := Try.f38) (c := bodyOf Try.f38) (ts := [2]) Try.func38 (by kernel_rfl) (by kernel_rfl) (by kernel_rfl) (by kernel_rfl) (by kernel_rfl) (by kernel_rfl) (by kernel_rfl) r38

theorem k38 : Contract Try.prog 38 sem38 := c38

theorem c39 : Contract Try.prog 39 sm39 :=
  contract_ofM (C := cf39) (fun f sem h => (Tab.cons k63 (Tab.cons k31 Tab.nil) : Tab _) _ (lk_mem' h)) (S := sg39) (fn := Try.f39) (c := bodyOf Try.f39) (ts := [4]) Try.func39 (by kernel_rfl) (by kernel_rfl) (by kernel_rfl) (by kernel_rfl) (by kernel_rfl) (by kernel_rfl) (by kernel_rfl) r39

theorem k39 : Contract Try.prog 39 sem39 := c39

theorem c40 : Contract Try.prog 40 sm40 :=
  contract_ofM (C := cf40) (fun f sem h => (Tab.cons k63 Tab.nil : Tab _) _ (lk_mem' h)) (S := sg40) (fn := Try.f40) (c := bodyOf Try.f40) (ts := [4]) Try.func40 (by kernel_rfl) (by kernel_rfl) (by kernel_rfl) (by kernel_rfl) (by kernel_rfl) (by kernel_rfl) (by kernel_rfl) r40

theorem k40 : Contract Try.prog 40 sem40 := c40

theorem c9 : Contract Try.prog 9 sm9 :=
  contract_ofM (C := cf9) (fun f sem h => (Tab.cons k32 (Tab.cons k33 (Tab.cons k34 (Tab.cons k35 (Tab.cons k31 (Tab.cons k36 (Tab.cons k37 (Tab.cons k38 (Tab.cons k39 (Tab.cons k40 Tab.nil))))))))) : Tab _) _ (lk_mem' h)) (S := sg9) (fn := Try.f9) (c := bodyOf Try.f9) (ts := [4, 5]) Try.func9 (by kernel_rfl) (by kernel_rfl) (by kernel_rfl) (by kernel_rfl) (by kernel_rfl) (by kernel_rfl) (by kernel_rfl) r9

theorem k9 : Contract Try.prog 9 sem9 := c9

theorem c3 : Contract Try.prog 3 sm3 :=
  contract_ofM (C := cf3) (fun f sem h => (Tab.cons k7 (Tab.cons k8 (Tab.cons k9 Tab.nil)) : Tab _) _ (lk_mem' h)) (S := sg3) (fn := Try.f3) (c := bodyOf Try.f3) (ts := [2]) Try.func3 (by kernel_rfl) (by kernel_rfl) (by kernel_rfl) (by kernel_rfl) (by kernel_rfl) (by kernel_rfl) (by kernel_rfl) r3

theorem k3 : Contract Try.prog 3 sem3 := c3

theorem c58 : Contract Try.prog 58 sm58 :=
  contract_ofM (C := cf58) (fun f sem h => (Tab.nil : Tab _) _ (lk_mem' h)) (S := sg58) (fn := Try.f58) (c := bodyOf Try.f58) (ts := []) Try.func58 (by kernel_rfl) (by kernel_rfl) (by kernel_rfl) (by kernel_rfl) (by kernel_rfl) (by kernel_rfl) (by kernel_rfl) r58

theorem c58a : Contract Try.prog 58 sm58a :=
  contract_ofM (C := cf58a) (fun f sem h => (Tab.nil : Tab _) _ (lk_mem' h)) (S := sg58a) (fn := Try.f58) (c := bodyOf Try.f58) (ts := []) Try.func58 (by kernel_rfl) (by kernel_rfl) (by kernel_rfl) (by kernel_rfl) (by kernel_rfl) (by kernel_rfl) (by kernel_rfl) r58a

theorem k58 : Contract Try.prog 58 sem58 := contract_or c58 (c58a)

theorem c25 : Contract Try.prog 25 sm25 :=
  contract_ofM (C := cf25) (fun f sem h => (Tab.nil : Tab _) _ (lk_mem' h)) (S := sg25) (fn := Try.f25) (c := bodyOf Try.f25) (ts := []) Try.func25 (by kernel_rfl) (by kernel_rfl) (by kernel_rfl) (by kernel_rfl) (by kernel_rfl) (by kernel_rfl) (by kernel_rfl) r25

theorem c25a : Contract Try.prog 25 sm25a :=
  contract_ofM (C := cf25a) (fun f sem h => (Tab.cons k58 Tab.nil : Tab _) _ (lk_mem' h)) (S := sg25a) (fn := Try.f25) (c := bodyOf Try.f25) (ts := []) Try.func25 (by kernel_rfl) (by kernel_rfl) (by kernel_rfl) (by kernel_rfl) (by kernel_rfl) (by kernel_rfl) (by kernel_rfl) r25a

theorem k25 : Contract Try.prog 25 sem25 := contract_or c25 (c25a)

theorem c23 : Contract Try.prog 23 sm23 :=
  contract_ofM (C := cf23) (fun f sem h => (Tab.nil : Tab _) _ (lk_mem' h)) (S := sg23) (fn := Try.f23) (c := bodyOf Try.f23) (ts := [2]) Try.func23 (by kernel_rfl) (by kernel_rfl) (by kernel_rfl) (by kernel_rfl) (by kernel_rfl) (by kernel_rfl) (by kernel_rfl) r23

theorem k23 : Contract Try.prog 23 sem23 := c23

theorem c20 : Contract Try.prog 20 sm20 :=
  contract_ofM (C := cf20) (fun f sem h => (Tab.nil : Tab _) _ (lk_mem' h)) (S := sg20) (fn := Try.f20) (c := bodyOf Try.f20) (ts := [2]) Try.func20 (by kernel_rfl) (by kernel_rfl) (by kernel_rfl) (by kernel_rfl) (by kernel_rfl) (by kernel_rfl) (by kernel_rfl) r20

theorem c20a : Contract Try.prog 20 sm20a :=
  contract_ofM (C := cf20a) (fun f sem h => (Tab.nil : Tab _) _ (lk_mem' h)) (S := sg20a) (fn := Try.f20) (c := bodyOf Try.f20) (ts := [2]) Try.func20 (by kernel_rfl) (by kernel_rfl) (by kernel_rfl) (by kernel_rfl) (by kernel_rfl) (by kernel_rfl) (by kernel_rfl) r20a

theorem k20 : Contract Try.prog 20 sem20 := contract_or c20 (c20a)

theorem c19 : Contract Try.prog 19 sm19 :=
  contract_ofM (C := cf19) (fun f sem h => (Tab.nil : Tab _) _ (lk_mem' h)) (S := sg19) (fn := Try.f19) (c := bodyOf Try.f19) (ts := [2]) Try.func19 (by kernel_rfl) (by kernel_rfl) (by kernel_rfl) (by kernel_rfl) (by kernel_rfl) (by kernel_rfl) (by kernel_rfl) r19

theorem c19a : Contract Try.prog 19 sm19a :=
  contract_ofM (C := cf19a) (fun f sem h => (Tab.cons k20 Tab.nil : Tab _) _ (lk_mem' h)) (S := sg19a) (fn := Try.f19) (c := bodyOf Try.f19) (ts := [2]) Try.func19 (by kernel_rfl) (by kernel_rfl) (by kernel_rfl) (by kernel_rfl) (by kernel_rfl) (by kernel_rfl) (by kernel_rfl) r19a

theorem k19 : Contract Try.prog 19 sem19 := contract_or c19 (c19a)

theorem c18 : Contract Try.prog 18 sm18 :=
  contract_ofM (C := cf18) (fun f sem h => (Tab.nil : Tab _) _ (lk_mem' h)) (S := sg18) (fn := Try.f18) (c := bodyOf Try.f18) (ts := [2, 3]) Try.func18 (by kernel_rfl) (by kernel_rfl) (by kernel_rfl) (by kernel_rfl) (by kernel_rfl) (by kernel_rfl) (by kernel_rfl) r18

theorem k18 : Contract Try.prog 18 sem18 := c18

theorem c48 : Contract Try.prog 48 sm48 :=
  contract_ofM (C := cf48) (fun f sem h => (Tab.nil : Tab _) _ (lk_mem' h)) (S := sg48) (fn := Try.f48) (c := bodyOf Try.f48) (ts := [4, 5]) Try.func48 (by kernel_rfl) (by kernel_rfl) (by kernel_rfl) (by kernel_rfl) (by kernel_rfl) (by kernel_rfl) (by kernel_rfl) r48

theorem c48a : Contract Try.prog 48 sm48a :=
  contract_ofM (C := cf48a) (fun f sem h => (Tab.nil : Tab _) _ (lk_mem' h)) (S := sg48a) (fn := Try.f48) (c := bodyOf Try.f48) (ts := [4, 5]) Try.func48 (by kernel_rfl) (by kernel_rfl) (by kernel_rfl) (by kernel_rfl) (by kernel_rfl) (by kernel_rfl) (by kernel_rfl) r48a

theorem k48 : Contract Try.prog 48 sem48 := contract_or c48 (c48a)

theorem c46 : Contract Try.prog 46 sm46 :=
  contract_ofM (C := cf46) (fun f sem h => (Tab.nil : Tab _) _ (lk_mem' h)) (S := sg46) (fn := Try.f46) (c := bodyOf Try.f46) (ts := [6]) Try.func46 (by kernel_rfl) (by kernel_rfl) (by kernel_rfl) (by kernel_rfl) (by kernel_rfl) (by kernel_rfl) (by kernel_rfl) r46

theorem c46a : Contract Try.prog 46 sm46a :=
  contract_ofM (C := cf46a) (fun f sem h => (Tab.cons k48 (Tab.cons k58 Tab.nil) : Tab _) _ (lk_mem' h)) (S := sg46a) (fn := Try.f46) (c := bodyOf Try.f46) (ts := [6]) Try.func46 (by kernel_rfl) (by kernel_rfl) (by kernel_rfl) (by kernel_rfl) (by kernel_rfl) (by kernel_rfl) (by kernel_rfl) r46a

theorem c46b : Contract Try.prog 46 sm46b :=
  contract_ofM (C := cf46b) (fun f sem h => (Tab.cons k48 (Tab.cons k58 Tab.nil) : Tab _) _ (lk_mem' h)) (S := sg46b) (fn := Try.f46) (c := bodyOf Try.f46) (ts := [6]) Try.func46 (by kernel_rfl) (by kernel_rfl) (by kernel_rfl) (by kernel_rfl) (by kernel_rfl) (by kernel_rfl) (by kernel_rfl) r46b

theorem k46 : Contract Try.prog 46 sem46 := contract_or c46 (contract_or c46a (c46b))

theorem c13 : Contract Try.prog 13 sm13 :=
  contract_ofM (C := cf13) (fun f sem h => (Tab.cons k46 Tab.nil : Tab _) _ (lk_mem' h)) (S := sg13) (fn := Try.f13) (c := bodyOf Try.f13) (ts := [4]) Try.func13 (by kernel_rfl) (by kernel_rfl) (by kernel_rfl) (by kernel_rfl) (by kernel_rfl) (by kernel_rfl) (by kernel_rfl) r13

theorem c13a : Contract Try.prog 13 sm13a :=
  contract_ofM (C := cf13a) (fun f sem h => (Tab.cons k46 Tab.nil : Tab _) _ (lk_mem' h)) (S := sg13a) (fn := Try.f13) (c := bodyOf Try.f13) (ts := [4]) Try.func13 (by kernel_rfl) (by kernel_rfl) (by kernel_rfl) (by kernel_rfl) (by kernel_rfl) (by kernel_rfl) (by kernel_rfl) r13a

theorem c13b : Contract Try.prog 13 sm13b :=
  contract_ofM (C := cf13b) (fun f sem h => (Tab.cons k46 Tab.nil : Tab _) _ (lk_mem' h)) (S := sg13b) (fn := Try.f13) (c := bodyOf Try.f13) (ts := [4]) Try.func13 (by kernel_rfl) (by kernel_rfl) (by kernel_rfl) (by kernel_rfl) (by kernel_rfl) (by kernel_rfl) (by kernel_rfl) r13b

theorem k13 : Contract Try.prog 13 sem13 := contract_or c13 (contract_or c13a (c13b))

theorem c14 : Contract Try.prog 14 sm14 :=
  contract_ofM (C := cf14) (fun f sem h => (Tab.cons k46 Tab.nil : Tab _) _ (lk_mem' h)) (S := sg14) (fn := Try.f14) (c := bodyOf Try.f14) (ts := [4]) Try.func14 (by kernel_rfl) (by kernel_rfl) (by kernel_rfl) (by kernel_rfl) (by kernel_rfl) (by kernel_rfl) (by kernel_rfl) r14

theorem k14 : Contract Try.prog 14 sem14 := c14

theorem c15 : Contract Try.prog 15 sm15 :=
  contract_ofM (C := cf15) (fun f sem h => (Tab.cons k46 Tab.nil : Tab _) _ (lk_mem' h)) (S := sg15) (fn := Try.f15) (c := bodyOf Try.f15) (ts := [4]) Try.func15 (by kernel_rfl) (by kernel_rfl) (by kernel_rfl) (by kernel_rfl) (by kernel_rfl) (by kernel_rfl) (by kernel_rfl) r15

theorem k15 : Contract Try.prog 15 sem15 := c15

theorem c16 : Contract Try.prog 16 sm16 :=
  contract_ofAM (C := cf16) (fun f sem h => (Tab.nil : Tab _) _ (lk_mem' h)) (args := ag16) (alts := al16) (fn := Try.f16) (c := bodyOf Try.f16) (ts := [(2, some 30)]) Try.func16 (by kernel_rfl) (by kernel_rfl) (by kernel_rfl) (by kernel_rfl) (by kernel_rfl) (by kernel_rfl) (by kernel_rfl) r16

theorem k16 : Contract Try.prog 16 sem16 := c16

theorem c17 : Contract Try.prog 17 sm17 :=
  contract_ofM (C := cf17) (fun f sem h => (Tab.nil : Tab _) _ (lk_mem' h)) (S := sg17) (fn := Try.f17) (c := bodyOf Try.f17) (ts := [2]) Try.func17 (by kernel_rfl) (by kernel_rfl) (by kernel_rfl) (by kernel_rfl) (by kernel_rfl) (by kernel_rfl) (by kernel_rfl) r17

theorem k17 : Contract Try.prog 17 sem17 := c17

theorem c26 : Contract Try.prog 26 sm26 :=
  contract_ofM (C := cf26) (fun f sem h => (Tab.nil : Tab _) _ (lk_mem' h)) (S := sg26) (fn := Try.f26) (c := bodyOf Try.f26) (ts := [4]) Try.func26 (by kernel_rfl) (by kernel_rfl) (by kernel_rfl) (by kernel_rfl) (by kernel_rfl) (by kernel_rfl) (by kernel_rfl) r26

theorem k26 : Contract Try.prog 26 sem26 := c26

theorem c27 : Contract Try.prog 27 sm27 :=
  contract_ofM (C := cf27) (fun f sem h => (Tab.nil : Tab _) _ (lk_mem' h)) (S := sg27) (fn := Try.f27) (c := bodyOf Try.f27) (ts := [6]) Try.func27 (by kernel_rfl) (by kernel_rfl) (by kernel_rfl) (by kernel_rfl) (by kernel_rfl) (by kernel_rfl) (by kernel_rfl) r27

theorem k27 : Contract Try.prog 27 sem27 := c27

theorem c22 : Contract Try.prog 22 sm22 :=
  contract_ofM (C := cf22) (fun f sem h => (Tab.nil : Tab _) _ (lk_mem' h)) (S := sg22) (fn := Try.f22) (c := bodyOf Try.f22) (ts := [2]) Try.func22 (by kernel_rfl) (by kernel_rfl) (by kernel_rfl) (by kernel_rfl) (by kernel_rfl) (by kernel_rfl) (by kernel_rfl) r22

theorem c22a : Contract Try.prog 22 sm22a :=
  contract_ofM (C := cf22a) (fun f sem h => (Tab.nil : Tab _) _ (lk_mem' h)) (S := sg22a) (fn := Try.f22) (c := bodyOf Try.f22) (ts := [2]) Try.func22 (by kernel_rfl) (by kernel_rfl) (by kernel_rfl) (by kernel_rfl) (by kernel_rfl) (by kernel_rfl) (by kernel_rfl) r22a

theorem k22 : Contract Try.prog 22 sem22 := contract_or c22 (c22a)

theorem c12 : Contract Try.prog 12 sm12 :=
  contract_ofM (C := cf12) (fun f sem h => (Tab.cons k45 Tab.nil : Tab _) _ (lk_mem' h)) (S := sg12) (fn := Try.f12) (c := bodyOf Try.f12) (ts := [2]) Try.func12 (by kernel_rfl) (by kernel_rfl) (by kernel_rfl) (by kernel_rfl) (by kernel_rfl) (by kernel_rfl) (by kernel_rfl) r12

theorem k12 : Contract Try.prog 12 sem12 := c12

theorem c85 : Contract Try.prog 85 sm85 :=
  contract_ofM (C := cf85) (fun f sem h => (Tab.nil : Tab _) _ (lk_mem' h)) (S := sg85) (fn := Try.f85) (c := bodyOf Try.f85) (ts := [2]) Try.func85 (by kernel_rfl) (by kernel_rfl) (by kernel_rfl) (by kernel_rfl) (by kernel_rfl) (by kernel_rfl) (by kernel_rfl) r85

theorem k85 : Contract Try.prog 85 sem85 := c85

theorem c94 : Contract Try.prog 94 sm94 :=
  contract_ofM (C := cf94) (fun f sem h => (Tab.cons k90 Tab.nil : Tab _) _ (lk_mem' h)) (S := sg94) (fn := Try.f94) (c := bodyOf Try.f94) (ts := [2]) Try.func94 (by kernel_rfl) (by kernel_rfl) (by kernel_rfl) (by kernel_rfl) (by kernel_rfl) (by kernel_rfl) (by kernel_rfl) r94

theorem k94 : Contract Try.prog 94 sem94 := c94

theorem c91 : Contract Try.prog 91 sm91 :=
  contract_ofM (C := cf91) (fun f sem h => (Tab.cons k94 Tab.nil : Tab _) _ (lk_mem' h)) (S := sg91) (fn := Try.f91) (c := bodyOf Try.f91) (ts := [6, 7]) Try.func91 (by kernel_rfl) (by kernel_rfl) (by kernel_rfl) (by kernel_rfl) (by kernel_rfl) (by kernel_rfl) (by kernel_rfl) r91

theorem k91 : Contract Try.prog 91 sem91 := c91

theorem c86 : Contract Try.prog 86 sm86 :=
  contract_ofAM (C := cf86) (fun f sem h => (Tab.cons k91 Tab.nil : Tab _) _ (lk_mem' h)) (args := ag86) (alts := al86) (fn := Try.f86) (c := bodyOf Try.f86) (ts := [(4, some 91), (5, none), (6, none)]) Try.func86 (by kernel_rfl) (by kernel_rfl) (by kernel_rfl) (by kernel_rfl) (by kernel_rfl) (by kernel_rfl) (by kernel_rfl) r86

theorem k86 : Contract Try.prog 86 sem86 := c86

theorem c76 : Contract Try.prog 76 sm76 :=
  contract_ofM (C := cf76) (fun f sem h => (Tab.cons k85 (Tab.cons k86 Tab.nil) : Tab _) _ (lk_mem' h)) (S := sg76) (fn := Try.f76) (c := bodyOf Try.f76) (ts := [4]) Try.func76 (by kernel_rfl) (by kernel_rfl) (by kernel_rfl) (by kernel_rfl) (by kernel_rfl) (by kernel_rfl) (by kernel_rfl) r76

theorem k76 : Contract Try.prog 76 sem76 := c76

theorem c60 : Contract Try.prog 60 sm60 :=
  contract_ofM (C := cf60) (fun f sem h => (Tab.cons k76 Tab.nil : Tab _) _ (lk_mem' h)) (S := sg60) (fn := Try.f60) (c := bodyOf Try.f60) (ts := [2]) Try.func60 (by kernel_rfl) (by kernel_rfl) (by kernel_rfl) (by kernel_rfl) (by kernel_rfl) (by kernel_rfl) (by kernel_rfl) r60

theorem k60 : Contract Try.prog 60 sem60 := c60

theorem c28 : Contract Try.prog 28 sm28 :=
  contract_ofM (C := cf28) (fun f sem h => (Tab.nil : Tab _) _ (lk_mem' h)) (S := sg28) (fn := Try.f28) (c := bodyOf Try.f28) (ts := [2]) Try.func28 (by kernel_rfl) (by kernel_rfl) (by kernel_rfl) (by kernel_rfl) (by kernel_rfl) (by kernel_rfl) (by kernel_rfl) r28

theorem c28a : Contract Try.prog 28 sm28a :=
  contract_ofM (C := cf28a) (fun f sem h => (Tab.cons k60 Tab.nil : Tab _) _ (lk_mem' h)) (S := sg28a) (fn := Try.f28) (c := bodyOf Try.f28) (ts := [2]) Try.func28 (by kernel_rfl) (by kernel_rfl) (by kernel_rfl) (by kernel_rfl) (by kernel_rfl) (by kernel_rfl) (by kernel_rfl) r28a

theorem k28 : Contract Try.prog 28 sem28 := contract_or c28 (c28a)

theorem c78 : Contract Try.prog 78 sm78 :=
  contract_ofAM (C := cf78) (fun f sem h => (Tab.cons k42 Tab.nil : Tab _) _ (lk_mem' h)) (args := ag78) (alts := al78) (fn := Try.f78) (c := bodyOf Try.f78) (ts := [(2, some 77)]) Try.func78 (by kernel_rfl) (by kernel_rfl) (by kernel_rfl) (by kernel_rfl) (by kernel_rfl) (by kernel_rfl) (by kernel_rfl) r78

theorem k78 : Contract Try.prog 78 sem78 := c78

theorem c87 : Contract Try.prog 87 sm87 :=
  contract_ofAM (C := cf87) (fun f sem h => (Tab.nil : Tab _) _ (lk_mem' h)) (args := ag87) (alts := al87) (fn := Try.f87) (c := bodyOf Try.f87) (ts := [(4, some 77)]) Try.func87 (by kernel_rfl) (by kernel_rfl) (by kernel_rfl) (by kernel_rfl) (by kernel_rfl) (by kernel_rfl) (by kernel_rfl) r87

theorem k87 : Contract Try.prog 87 sem87 := c87

theorem c88 : Contract Try.prog 88 sm88 :=
  contract_ofM (C := cf88) (fun f sem h => (Tab.nil : Tab _) _ (lk_mem' h)) (S := sg88) (fn := Try.f88) (c := bodyOf Try.f88) (ts := [4]) Try.func88 (by kernel_rfl) (by kernel_rfl) (by kernel_rfl) (by kernel_rfl) (by kernel_rfl) (by kernel_rfl) (by kernel_rfl) r88

theorem k88 : Contract Try.prog 88 sem88 := c88

theorem c93 : Contract Try.prog 93 sm93 :=
  contract_ofAM (C := cf93) (fun f sem h => (Tab.nil : Tab _) _ (lk_mem' h)) (args := ag93) (alts := al93) (fn := Try.f93) (c := bodyOf Try.f93) (ts := [(2, some 77)]) Try.func93 (by kernel_rfl) (by kernel_rfl) (by kernel_rfl) (by kernel_rfl) (by kernel_rfl) (by kernel_rfl) (by kernel_rfl) r93

theorem k93 : Contract Try.prog 93 sem93 := c93

theorem c92 : Contract Try.prog 92 sm92 :=
  contract_ofAM (C := cf92) (fun f sem h => (Tab.nil : Tab _) _ (lk_mem' h)) (args := ag92) (alts := al92) (fn := Try.f92) (c := bodyOf Try.f92) (ts := [(6, some 77), (7, none)]) Try.func92 (by kernel_rfl) (by kernel_rfl) (by kernel_rfl) (by kernel_rfl) (by kernel_rfl) (by kernel_rfl) (by kernel_rfl) r92

theorem k92 : Contract Try.prog 92 sem92 := c92

theorem c89 : Contract Try.prog 89 sm89 :=
  contract_ofAM (C := cf89) (fun f sem h => (Tab.cons k93 (Tab.cons k92 (Tab.cons k88 Tab.nil)) : Tab _) _ (lk_mem' h)) (args := ag89) (alts := al89) (fn := Try.f89) (c := bodyOf Try.f89) (ts := [(4, some 77), (5, none)]) Try.func89 (by kernel_rfl) (by kernel_rfl) (by kernel_rfl) (by kernel_rfl) (by kernel_rfl) (by kernel_rfl) (by kernel_rfl) r89

theorem k89 : Contract Try.prog 89 sem89 := c89

theorem c77 : Contract Try.prog 77 sm77 :=
  contract_ofAM (C := cf77) (fun f sem h => (Tab.cons k87 (Tab.cons k88 (Tab.cons k89 Tab.nil)) : Tab _) _ (lk_mem' h)) (args := ag77) (alts := al77) (fn := Try.f77) (c := bodyOf Try.f77) (ts := [(4, some 77), (5, some 77)]) Try.func77 (by kernel_rfl) (by kernel_rfl) (by kernel_rfl) (by kernel_rfl) (by kernel_rfl) (by kernel_rfl) (by kernel_rfl) r77

theorem k77 : Contract Try.prog 77 sem77 := c77

theorem c79 : Contract Try.prog 79 sm79 :=
  contract_ofM (C := cf79) (fun f sem h => (Tab.nil : Tab _) _ (lk_mem' h)) (S := sg79) (fn := Try.f79) (c := bodyOf Try.f79) (ts := [2, 3]) Try.func79 (by kernel_rfl) (by kernel_rfl) (by kernel_rfl) (by kernel_rfl) (by kernel_rfl) (by kernel_rfl) (by kernel_rfl) r79

theorem k79 : Contract Try.prog 79 sem79 := c79

theorem c61 : Contract Try.prog 61 sm61 :=
  contract_ofM (C := cf61) (fun f sem h => (Tab.cons k41 (Tab.cons k78 (Tab.cons k77 (Tab.cons k79 Tab.nil))) : Tab _) _ (lk_mem' h)) (S := sg61) (fn := Try.f61) (c := bodyOf Try.f61) (ts := [4]) Try.func61 (by kernel_rfl) (by kernel_rfl) (by kernel_rfl) (by kernel_rfl) (by kernel_rfl) (by kernel_rfl) (by kernel_rfl) r61

theorem k61 : Contract Try.prog 61 sem61 := c61

theorem c29 : Contract Try.prog 29 sm29 :=
  contract_ofM (C := cf29) (fun f sem h => (Tab.cons k42 (Tab.cons k61 Tab.nil) : Tab _) _ (lk_mem' h)) (S := sg29) (fn := Try.f29) (c := bodyOf Try.f29) (ts := [2]) Try.func29 (by kernel_rfl) (by kernel_rfl) (by kernel_rfl) (by kernel_rfl) (by kernel_rfl) (by kernel_rfl) (by kernel_rfl) r29

theorem k29 : Contract Try.prog 29 sem29 := c29

theorem c30 : Contract Try.prog 30 sm30 :=
  contract_ofM (C := cf30) (fun f sem h => (Tab.nil : Tab _) _ (lk_mem' h)) (S := sg30) (fn := Try.f30) (c := bodyOf Try.f30) (ts := [2]) Try.func30 (by kernel_rfl) (by kernel_rfl) (by kernel_rfl) (by kernel_rfl) (by kernel_rfl) (by kernel_rfl) (by kernel_rfl) r30

theorem k30 : Contract Try.prog 30 sem30 := c30

theorem c6 : Contract Try.prog 6 sm6 :=
  contract_ofM (C := cf6) (fun f sem h => (Tab.cons k8 (Tab.cons k25 (Tab.cons k23 (Tab.cons k19 (Tab.cons k18 (Tab.cons k13 (Tab.cons k14 (Tab.cons k15 (Tab.cons k16 (Tab.cons k17 (Tab.cons k26 (Tab.cons k27 (Tab.cons k22 (Tab.cons k20 (Tab.cons k12 (Tab.cons k28 (Tab.cons k29 (Tab.cons k30 Tab.nil))))))))))))))))) : Tab _) _ (lk_mem' h)) (S := sg6) (fn := Try.f6) (c := bodyOf Try.f6) (ts := [4]) Try.func6 (by kernel_rfl) (by kernel_rfl) (by kernel_rfl) (by kernel_rfl) (by kernel_rfl) (by kernel_rfl) (by kernel_rfl) r6

theorem k6 : Contract Try.prog 6 sem6 := c6

end Go.Proofs.Ytffgheglileflaa
