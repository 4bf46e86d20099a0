/- The functions of this seat, and the laws as plain Lean. -/
import Derived.Test.YtffgheglileflaaProg
import Derived.Test.YtffgheglileflaaQ6

namespace Go.Proofs.Ytffgheglileflaa
open Go Go.Pv Go.Proofs Go.L
set_option maxRecDepth 100000

noncomputable def bodyOf (f : Func) : Code := match f.body with | some c => c | none => .skip
noncomputable def cf (tab : List (Nat × CSem)) (nt nob : Nat) (ann : List (Nat × Shape)) : Cfg := ⟨Try.prog, fun f => lk f tab, nt, nob, fun n => lk n ann⟩
def Tab (tab : List (Nat × CSem)) : Prop := ∀ q ∈ tab, Contract Try.prog q.1 q.2
theorem Tab.nil : Tab [] := fun q h => by cases h
theorem Tab.cons {f : Nat} {sem : CSem} {l : List (Nat × CSem)} (h : Contract Try.prog f sem) (t : Tab l) : Tab ((f, sem) :: l) := fun q hq => by
  rcases List.mem_cons.1 hq with rfl | hq
  · exact h
  · exact t q hq

/-! ### shunter/shunterlaw07.light -/
noncomputable def law07_light_s0 (ops_0_0 : List (Int × Int × Int × Int × (Int × Int × Int × Unit) × (List Int) × (List (Int × Int × Int × Unit)) × (List Int) × Unit)) (i_3_0 : Int) : Option ((((List (Int × Int × Int × Int × (Int × Int × Int × Unit) × (List Int) × (List (Int × Int × Int × Unit)) × (List Int) × Unit)) × Int × Unit) × (Unit)) ⊕ ((Bool × Unit) × (Unit))) :=
  bif (decide (i_3_0 < (ops_0_0.length : Int))) then
    (rdI ops_0_0 i_3_0).bind fun v_5 =>
    let t19_7 : Bool := decide ((v_5.2.2.2.2.2.2.1.length : Int) > 300)
    guardR (!t19_7) (some ()) () fun _ =>
    guardR (!t19_7) (some ()) () fun _ =>
    guardR (!t19_7) (rdI ops_0_0 i_3_0) (0, 0, 0, 0, (0, 0, 0, ()), [], [], [], ()) fun v_8 =>
    guardR (!t19_7) (some v_8.2.2.2.2.2.2.2.1) [] fun v_9 =>
    guardR (!t19_7) (some ()) () fun _ =>
    guardR (!t19_7) (some (v_9.length : Int)) 0 fun v_10 =>
    guardR (!t19_7) (some (decide (v_10 > 300))) false fun v_11 =>
    let t28_12 : Bool := bif t19_7 then true else v_11
    guardR (!t28_12) (some ()) () fun _ =>
    guardR (!t28_12) (some ()) () fun _ =>
    guardR (!t28_12) (rdI ops_0_0 i_3_0) (0, 0, 0, 0, (0, 0, 0, ()), [], [], [], ()) fun v_13 =>
    guardR (!t28_12) (some v_13.2.2.2.2.2.1) [] fun v_14 =>
    guardR (!t28_12) (some ()) () fun _ =>
    guardR (!t28_12) (some (v_14.length : Int)) 0 fun v_15 =>
    guardR (!t28_12) (some (decide (v_15 > 600))) false fun v_16 =>
    bif (bif t28_12 then true else v_16) then
      some (.inr ((false, ()), ()))
    else
    some (.inl ((ops_0_0, (IntKind.i64.wrap (i_3_0 + 1)), ()), ()))
  else
  some (.inr ((true, ()), ()))
noncomputable def law07_light (ops_0 : List (Int × Int × Int × Int × (Int × Int × Int × Unit) × (List Int) × (List (Int × Int × Int × Unit)) × (List Int) × Unit)) : Option ((Bool × Unit) × (Unit)) :=
  bif (decide ((ops_0.length : Int) > 30)) then
    some ((false, ()), ())
  else
  loopR (fun (z : ((List (Int × Int × Int × Int × (Int × Int × Int × Unit) × (List Int) × (List (Int × Int × Int × Unit)) × (List Int) × Unit)) × Int × Unit) × (Unit)) => law07_light_s0 z.1.1 z.1.2.1) ((ops_0, 0, ()), ())

noncomputable def sg7 : Sig := ⟨[.val (.slice (.agg (.pair (.int .i64) (.pair (.int .i64) (.pair (.int .i64) (.pair (.int .i64) (.pair (.agg (.pair (.int .i64) (.pair (.int .u64) (.pair (.int .u64) .unit)))) (.pair .str (.pair (.slice (.agg (.pair (.int .i64) (.pair (.int .u64) (.pair (.int .u64) .unit))))) (.pair (.slice (.int .i64)) .unit))))))))))], [.val .bool], []⟩
noncomputable def sm7 : CSem := mkSem sg7 fun x => law07_light x.1
noncomputable def cf7 : Cfg := cf [] 38 0 [(0, ⟨[(0, .dat (.slice (.agg (.pair (.int .i64) (.pair (.int .i64) (.pair (.int .i64) (.pair (.int .i64) (.pair (.agg (.pair (.int .i64) (.pair (.int .u64) (.pair (.int .u64) .unit)))) (.pair .str (.pair (.slice (.agg (.pair (.int .i64) (.pair (.int .u64) (.pair (.int .u64) .unit))))) (.pair (.slice (.int .i64)) .unit))))))))))), (3, .dat (.int .i64))], []⟩)]

noncomputable def sem7 : CSem := sm7

noncomputable def sg70 : Sig := ⟨[.val (.int .i64)], [.val .bool], []⟩
noncomputable def sm70 : CSem := mkSem sg70 fun x => vec_width x.1
noncomputable def cf70 : Cfg := cf [] 9 0 []

noncomputable def sem70 : CSem := sm70

noncomputable def ag65 : List AK := [.val (.agg (.pair (.int .i64) (.pair (.int .u64) (.pair (.int .u64) .unit))))]
noncomputable def al65 : List Alt := [([.val (.agg (.pair (.int .u64) (.pair (.int .u64) .unit)))], [])]
noncomputable def sm65 : CSem := mkSemA ag65 al65 fun x => vec_Word x.1
noncomputable def cf65 : Cfg := cf [] 8 0 []

noncomputable def sem65 : CSem := sm65

noncomputable def sg90 : Sig := ⟨[.val (.int .u64)], [.val (.int .i64)], []⟩
noncomputable def sm90 : CSem := mkSem sg90 fun x => bits_Len64 x.1
noncomputable def cf90 : Cfg := cf [] 25 0 []

noncomputable def sem90 : CSem := sm90

noncomputable def sg80 : Sig := ⟨[.val (.agg (.pair (.int .u64) (.pair (.int .u64) .unit)))], [.val (.int .i64)], []⟩
noncomputable def sm80 : CSem := mkSem sg80 fun x => word_Len x.1
noncomputable def cf80 : Cfg := cf [(90, sem90)] 13 0 []

noncomputable def sem80 : CSem := sm80

noncomputable def sg62 : Sig := ⟨[.val (.agg (.pair (.int .i64) (.pair (.int .u64) (.pair (.int .u64) .unit))))], [.val .bool], []⟩
noncomputable def sm62 : CSem := mkSem sg62 fun x => vec_May x.1
noncomputable def cf62 : Cfg := cf [(70, sem70), (65, sem65), (80, sem80)] 14 0 []

noncomputable def sem62 : CSem := sm62

noncomputable def sg45 : Sig := ⟨[.val (.slice (.int .u8))], [.own (.own (.int .u8))], []⟩
noncomputable def sm45 : CSem := mkSem sg45 fun x => bytes_Clone x.1
noncomputable def cf45 : Cfg := cf [] 8 0 []

noncomputable def sem45 : CSem := sm45

noncomputable def sg81 : Sig := ⟨[.val (.slice (.int .u8))], [.own (.app (.int .u8))], []⟩
noncomputable def sm81 : CSem := mkSem sg81 fun x => slices_Clip_byte_byte x.1
noncomputable def cf81 : Cfg := cf [] 9 0 []

noncomputable def sem81 : CSem := sm81

noncomputable def sg63 : Sig := ⟨[.val (.slice (.int .u8)), .val (.int .i64), .val (.int .i64)], [.own (.app (.int .u8))], []⟩
noncomputable def sm63 : CSem := mkSem sg63 fun x => wire_put x.1 x.2.1 x.2.2.1
noncomputable def cf63 : Cfg := cf [(45, sem45), (81, sem81)] 29 0 [(0, ⟨[(1, .dat (.int .i64)), (2, .dat (.int .i64)), (7, .own (.int .u8) true), (12, .dat (.int .i64)), (13, .dat (.int .i64))], []⟩)]

noncomputable def sem63 : CSem := sm63

noncomputable def sg49 : Sig := ⟨[.val (.int .i64)], [.val (.int .i64)], []⟩
noncomputable def sm49 : CSem := mkSem sg49 fun x => wire_room x.1
noncomputable def cf49 : Cfg := cf [] 7 0 []

noncomputable def sem49 : CSem := sm49

noncomputable def ag51 : List AK := [.val (.agg (.pair (.int .u64) (.pair (.int .u64) .unit))), .val (.int .i64)]
noncomputable def al51 : List Alt := [([.val (.agg (.pair (.int .u64) (.pair (.int .u64) .unit)))], [])]
noncomputable def sm51 (word_Shl : (Int × Int × Unit) → Int → Option (((Int × Int × Unit) × Unit) × (Unit))) : CSem := mkSemA ag51 al51 fun x => word_Shl x.1 x.2.1
noncomputable def ag64 : List AK := [.val (.agg (.pair (.int .u64) (.pair (.int .u64) .unit))), .val (.int .i64)]
noncomputable def al64 : List Alt := [([.val (.agg (.pair (.int .u64) (.pair (.int .u64) .unit)))], [])]
noncomputable def sm64 (word_Shr : (Int × Int × Unit) → Int → Option (((Int × Int × Unit) × Unit) × (Unit))) : CSem := mkSemA ag64 al64 fun x => word_Shr x.1 x.2.1
noncomputable def cf51 (word_Shl : (Int × Int × Unit) → Int → Option (((Int × Int × Unit) × Unit) × (Unit))) (word_Shr : (Int × Int × Unit) → Int → Option (((Int × Int × Unit) × Unit) × (Unit))) : Cfg := cf [(64, sm64 word_Shr)] 48 0 []
noncomputable def cf64 (word_Shl : (Int × Int × Unit) → Int → Option (((Int × Int × Unit) × Unit) × (Unit))) (word_Shr : (Int × Int × Unit) → Int → Option (((Int × Int × Unit) × Unit) × (Unit))) : Cfg := cf [(51, sm51 word_Shl)] 48 0 []

noncomputable def sem51 : CSem := (sm51 word_Shl)

noncomputable def sem64 : CSem := (sm64 word_Shr)

noncomputable def sg31 : Sig := ⟨[.val (.slice (.int .u8)), .val (.agg (.pair (.int .i64) (.pair (.int .u64) (.pair (.int .u64) .unit))))], [.own (.app (.int .u8))], []⟩
noncomputable def sm31 : CSem := mkSem sg31 fun x => wire_Vec x.1 x.2.1
noncomputable def cf31 : Cfg := cf [(62, sem62), (63, sem63), (49, sem49), (65, sem65), (64, sem64)] 35 0 [(0, ⟨[(3, .loc (nameOf 3 0) []), (5, .own (.int .u8) true), (6, .dat (.int .i64))], [((nameOf 3 0), (.agg (.pair (.int .i64) (.pair (.int .u64) (.pair (.int .u64) .unit)))))]⟩)]

noncomputable def sem31 : CSem := sm31

/-! ### shunter/shunterlaw07.lives -/
noncomputable def law07_lives : Option ((Bool × Unit) × (Unit)) :=
  (wire_Vec [] (12, 0, 2748, ())).bind fun r_1 =>
  some (((decide (r_1.1.1 = [12, 10, 188])), ()), ())

noncomputable def sg8 : Sig := ⟨[], [.val .bool], []⟩
noncomputable def sm8 : CSem := mkSem sg8 fun x => law07_lives
noncomputable def cf8 : Cfg := cf [(31, sem31)] 7 0 []

noncomputable def sem8 : CSem := sm8

noncomputable def sg32 : Sig := ⟨[.val (.slice (.int .u8)), .val (.int .i64)], [.own (.app (.int .u8))], []⟩
noncomputable def sm32 : CSem := mkSem sg32 fun x => wire_Byte x.1 x.2.1
noncomputable def cf32 : Cfg := cf [(63, sem63)] 8 0 []

noncomputable def sem32 : CSem := sm32

noncomputable def ag42 : List AK := [.val (.int .u64), .val (.int .u64)]
noncomputable def al42 : List Alt := [([.val (.agg (.arr 128 .bool))], [])]
noncomputable def sm42 : CSem := mkSemA ag42 al42 fun x => ref01_Of x.1 x.2.1
noncomputable def cf42 : Cfg := cf [] 27 0 [(0, ⟨[(0, .dat (.int .u64)), (1, .dat (.int .u64)), (4, .loc (nameOf 4 0) []), (5, .loc (nameOf 5 0) []), (6, .dat (.int .i64))], [((nameOf 4 0), (.agg (.arr 128 .bool))), ((nameOf 5 0), (.agg (.arr 128 .bool)))]⟩)]

noncomputable def sem42 : CSem := sm42

noncomputable def sg66 : Sig := ⟨[.val (.agg (.pair (.int .i64) (.pair (.int .u64) (.pair (.int .u64) .unit))))], [.own (.own .bool)], []⟩
noncomputable def sm66 : CSem := mkSem sg66 fun x => ref02_Bits x.1
noncomputable def cf66 : Cfg := cf [(42, sem42)] 28 0 [(0, ⟨[(1, .loc (nameOf 1 0) []), (3, .loc (nameOf 3 0) []), (4, .own .bool false), (5, .dat (.int .i64))], [((nameOf 1 0), (.agg (.pair (.int .i64) (.pair (.int .u64) (.pair (.int .u64) .unit))))), ((nameOf 3 0), (.agg (.arr 128 .bool)))]⟩)]

noncomputable def sem66 : CSem := sm66

noncomputable def sg67 : Sig := ⟨[.val (.slice .bool)], [.own (.own (.int .u8))], []⟩
noncomputable def sm67 : CSem := mkSem sg67 fun x => ref03_Bytes x.1
noncomputable def cf67 : Cfg := cf [] 40 0 [(2, ⟨[(0, .dat (.slice .bool)), (3, .own (.int .u8) false), (4, .dat (.int .i64)), (5, .dat (.int .i64)), (6, .dat (.int .i64))], []⟩), (0, ⟨[(0, .dat (.slice .bool)), (3, .own (.int .u8) false), (4, .dat (.int .i64))], []⟩)]

noncomputable def sem67 : CSem := sm67

noncomputable def sg33 : Sig := ⟨[.val (.int .i64), .val (.int .i64)], [.own (.own (.int .u8))], []⟩
noncomputable def sm33 : CSem := mkSem sg33 fun x => ref07_Number x.1 x.2.1
noncomputable def cf33 : Cfg := cf [(66, sem66), (67, sem67)] 28 0 [(0, ⟨[(5, .own .bool false), (6, .own .bool false), (7, .dat (.int .i64))], []⟩)]

noncomputable def sem33 : CSem := sm33

noncomputable def sg34 : Sig := ⟨[.val (.slice (.int .u8)), .val (.int .i64)], [.own (.app (.int .u8))], []⟩
noncomputable def sm34 : CSem := mkSem sg34 fun x => wire_Two x.1 x.2.1
noncomputable def cf34 : Cfg := cf [(63, sem63)] 8 0 []

noncomputable def sem34 : CSem := sm34

noncomputable def sg35 : Sig := ⟨[.val (.slice (.int .u8)), .val (.int .i64)], [.own (.app (.int .u8))], []⟩
noncomputable def sm35 : CSem := mkSem sg35 fun x => wire_Four x.1 x.2.1
noncomputable def cf35 : Cfg := cf [(63, sem63)] 8 0 []

noncomputable def sem35 : CSem := sm35

noncomputable def sg41 : Sig := ⟨[.val (.agg (.arr 128 .bool))], [.val (.int .i64)], []⟩
noncomputable def sm41 : CSem := mkSem sg41 fun x => ref01_Len x.1
noncomputable def cf41 : Cfg := cf [] 13 0 [(0, ⟨[(1, .loc (nameOf 1 0) []), (3, .dat (.int .i64))], [((nameOf 1 0), (.agg (.arr 128 .bool)))]⟩)]

noncomputable def sem41 : CSem := sm41

noncomputable def sg10 : Sig := ⟨[.val (.agg (.pair (.int .i64) (.pair (.int .u64) (.pair (.int .u64) .unit))))], [.val .bool], []⟩
noncomputable def sm10 : CSem := mkSem sg10 fun x => ref02_May x.1
noncomputable def cf10 : Cfg := cf [(42, sem42), (41, sem41)] 22 0 []

noncomputable def sem10 : CSem := sm10

noncomputable def sg68 : Sig := ⟨[.val (.agg (.pair (.int .i64) (.pair (.int .u64) (.pair (.int .u64) .unit))))], [.own (.own .bool)], []⟩
noncomputable def sm68 : CSem := mkSem sg68 fun x => ref03_Of x.1
noncomputable def cf68 : Cfg := cf [(66, sem66)] 23 0 [(0, ⟨[(3, .own .bool false), (4, .own .bool false), (5, .dat (.int .i64))], []⟩)]

noncomputable def sem68 : CSem := sm68

noncomputable def sg36 : Sig := ⟨[.val (.agg (.pair (.int .i64) (.pair (.int .u64) (.pair (.int .u64) .unit))))], [.own (.own (.int .u8))], []⟩
noncomputable def sm36 : CSem := mkSem sg36 fun x => ref07_Vec x.1
noncomputable def cf36 : Cfg := cf [(10, sem10), (68, sem68), (67, sem67)] 30 0 [(0, ⟨[(1, .loc (nameOf 1 0) []), (3, .own .bool false)], [((nameOf 1 0), (.agg (.pair (.int .i64) (.pair (.int .u64) (.pair (.int .u64) .unit)))))]⟩)]

noncomputable def sem36 : CSem := sm36

noncomputable def sg37 : Sig := ⟨[.val (.slice (.int .u8)), .val .str], [.own (.app (.int .u8))], []⟩
noncomputable def sm37 : CSem := mkSem sg37 fun x => wire_Name x.1 x.2.1
noncomputable def cf37 : Cfg := cf [(63, sem63)] 16 0 []

noncomputable def sem37 : CSem := sm37

noncomputable def sg38 : Sig := ⟨[.val .str], [.own (.own (.int .u8))], []⟩
noncomputable def sm38 : CSem := mkSem sg38 fun x => ref07_Name x.1
noncomputable def cf38 : Cfg := cf [] 13 0 []

noncomputable def sem38 : CSem := sm38

noncomputable def sg39 : Sig := ⟨[.val (.slice (.int .u8)), .val (.slice (.agg (.pair (.int .i64) (.pair (.int .u64) (.pair (.int .u64) .unit)))))], [.own (.app (.int .u8))], []⟩
noncomputable def sm39 : CSem := mkSem sg39 fun x => wire_Vecs x.1 x.2.1
noncomputable def cf39 : Cfg := cf [(63, sem63), (31, sem31)] 28 0 [(0, ⟨[(5, .own (.int .u8) true), (17, .dat (.slice (.agg (.pair (.int .i64) (.pair (.int .u64) (.pair (.int .u64) .unit)))))), (18, .dat (.int .i64)), (19, .dat (.int .i64))], []⟩)]

noncomputable def sem39 : CSem := sm39

noncomputable def sg40 : Sig := ⟨[.val (.slice (.int .u8)), .val (.slice (.int .i64))], [.own (.app (.int .u8))], []⟩
noncomputable def sm40 : CSem := mkSem sg40 fun x => wire_Numbers x.1 x.2.1
noncomputable def cf40 : Cfg := cf [(63, sem63)] 30 0 [(0, ⟨[(5, .own (.int .u8) true), (17, .dat (.slice (.int .i64))), (18, .dat (.int .i64)), (19, .dat (.int .i64))], []⟩)]

noncomputable def sem40 : CSem := sm40

/-! ### shunter/shunterlaw07.write -/
noncomputable def law07_write_s1 (b_0_1 : List Int) (want_6_1 : List Int) (i_7_1 : Int) (p3_0_1 : Int × Int × Int × Int × (Int × Int × Int × Unit) × (List Int) × (List (Int × Int × Int × Unit)) × (List Int) × Unit) : Option ((((List Int) × (List Int) × Int × Unit) × ((Int × Int × Int × Int × (Int × Int × Int × Unit) × (List Int) × (List (Int × Int × Int × Unit)) × (List Int) × Unit) × Unit)) ⊕ (((List Int) × (List Int) × Unit) × (Unit))) :=
  bif (decide (i_7_1 < (p3_0_1.2.2.2.2.2.2.1.length : Int))) then
    (rdI p3_0_1.2.2.2.2.2.2.1 i_7_1).bind fun v_25 =>
    (ref07_Vec v_25).bind fun r_26 =>
    (roomI 1 want_6_1 r_26.1.1).bind fun v_27 =>
    some (.inl ((b_0_1, v_27, (IntKind.i64.wrap (i_7_1 + 1)), ()), (p3_0_1.1, p3_0_1.2.1, p3_0_1.2.2.1, p3_0_1.2.2.2.1, (p3_0_1.2.2.2.2.1.1, p3_0_1.2.2.2.2.1.2.1, p3_0_1.2.2.2.2.1.2.2.1, ()), p3_0_1.2.2.2.2.2.1, p3_0_1.2.2.2.2.2.2.1, p3_0_1.2.2.2.2.2.2.2.1, ()), ()))
  else
  ((wire_Vecs b_0_1 p3_0_1.2.2.2.2.2.2.1).bind fun r_29 =>
  some ((r_29.1.1, want_6_1, ()), ())).map .inr
noncomputable def law07_write_s3 (b_0_3 : List Int) (want_8_3 : List Int) (i_9_3 : Int) (p3_0_3 : Int × Int × Int × Int × (Int × Int × Int × Unit) × (List Int) × (List (Int × Int × Int × Unit)) × (List Int) × Unit) : Option ((((List Int) × (List Int) × Int × Unit) × ((Int × Int × Int × Int × (Int × Int × Int × Unit) × (List Int) × (List (Int × Int × Int × Unit)) × (List Int) × Unit) × Unit)) ⊕ (((List Int) × (List Int) × Unit) × (Unit))) :=
  bif (decide (i_9_3 < (p3_0_3.2.2.2.2.2.2.2.1.length : Int))) then
    (rdI p3_0_3.2.2.2.2.2.2.2.1 i_9_3).bind fun v_40 =>
    (roomI 1 want_8_3 [(IntKind.u8.wrap v_40)]).bind fun v_42 =>
    some (.inl ((b_0_3, v_42, (IntKind.i64.wrap (i_9_3 + 1)), ()), (p3_0_3.1, p3_0_3.2.1, p3_0_3.2.2.1, p3_0_3.2.2.2.1, (p3_0_3.2.2.2.2.1.1, p3_0_3.2.2.2.2.1.2.1, p3_0_3.2.2.2.2.1.2.2.1, ()), p3_0_3.2.2.2.2.2.1, p3_0_3.2.2.2.2.2.2.1, p3_0_3.2.2.2.2.2.2.2.1, ()), ()))
  else
  ((wire_Numbers b_0_3 p3_0_3.2.2.2.2.2.2.2.1).bind fun r_44 =>
  some ((r_44.1.1, want_8_3, ()), ())).map .inr
noncomputable def law07_write (b_0 : List Int) (o_1 : Int × Int × Int × Int × (Int × Int × Int × Unit) × (List Int) × (List (Int × Int × Int × Unit)) × (List Int) × Unit) : Option (((List Int) × (List Int) × Unit) × (Unit)) :=
  bif (decide (o_1.1 = 0)) then
    (wire_Byte b_0 o_1.2.1).bind fun r_2 =>
    (ref07_Number o_1.2.1 1).bind fun r_3 =>
    some ((r_2.1.1, r_3.1.1, ()), ())
  else
  bif (decide (o_1.1 = 1)) then
    (wire_Two b_0 o_1.2.1).bind fun r_5 =>
    (ref07_Number o_1.2.1 2).bind fun r_6 =>
    some ((r_5.1.1, r_6.1.1, ()), ())
  else
  bif (decide (o_1.1 = 2)) then
    (wire_Four b_0 o_1.2.1).bind fun r_8 =>
    (ref07_Number o_1.2.1 4).bind fun r_9 =>
    some ((r_8.1.1, r_9.1.1, ()), ())
  else
  bif (decide (o_1.1 = 3)) then
    (wire_Vec b_0 (o_1.2.2.2.2.1.1, o_1.2.2.2.2.1.2.1, o_1.2.2.2.2.1.2.2.1, ())).bind fun r_11 =>
    (ref07_Vec (o_1.2.2.2.2.1.1, o_1.2.2.2.2.1.2.1, o_1.2.2.2.2.1.2.2.1, ())).bind fun r_12 =>
    some ((r_11.1.1, r_12.1.1, ()), ())
  else
  bif (decide (o_1.1 = 4)) then
    (wire_Name b_0 o_1.2.2.2.2.2.1).bind fun r_14 =>
    (ref07_Name o_1.2.2.2.2.2.1).bind fun r_15 =>
    some ((r_14.1.1, r_15.1.1, ()), ())
  else
  bif (decide (o_1.1 = 5)) then
    bif (decide ((o_1.2.2.2.2.2.2.1.length : Int) ≤ 255)) then
      (Option.map (fun _ => 0) (ckI 0 [0].length)).bind fun v_21 =>
      (stI [0] v_21 (IntKind.u8.wrap (o_1.2.2.2.2.2.2.1.length : Int))).bind fun v_22 =>
      loopR (fun (z : ((List Int) × (List Int) × Int × Unit) × ((Int × Int × Int × Int × (Int × Int × Int × Unit) × (List Int) × (List (Int × Int × Int × Unit)) × (List Int) × Unit) × Unit)) => law07_write_s1 z.1.1 z.1.2.1 z.1.2.2.1 z.2.1) ((b_0, v_22, 0, ()), (o_1.1, o_1.2.1, o_1.2.2.1, o_1.2.2.2.1, (o_1.2.2.2.2.1.1, o_1.2.2.2.2.1.2.1, o_1.2.2.2.2.1.2.2.1, ()), o_1.2.2.2.2.2.1, o_1.2.2.2.2.2.2.1, o_1.2.2.2.2.2.2.2.1, ()), ())
    else
    (wire_Vecs b_0 o_1.2.2.2.2.2.2.1).bind fun r_30 =>
    some ((r_30.1.1, [0], ()), ())
  else
  bif (decide (o_1.1 = 6)) then
    bif (decide ((o_1.2.2.2.2.2.2.2.1.length : Int) ≤ 255)) then
      (Option.map (fun _ => 0) (ckI 0 [0].length)).bind fun v_36 =>
      (stI [0] v_36 (IntKind.u8.wrap (o_1.2.2.2.2.2.2.2.1.length : Int))).bind fun v_37 =>
      loopR (fun (z : ((List Int) × (List Int) × Int × Unit) × ((Int × Int × Int × Int × (Int × Int × Int × Unit) × (List Int) × (List (Int × Int × Int × Unit)) × (List Int) × Unit) × Unit)) => law07_write_s3 z.1.1 z.1.2.1 z.1.2.2.1 z.2.1) ((b_0, v_37, 0, ()), (o_1.1, o_1.2.1, o_1.2.2.1, o_1.2.2.2.1, (o_1.2.2.2.2.1.1, o_1.2.2.2.2.1.2.1, o_1.2.2.2.2.1.2.2.1, ()), o_1.2.2.2.2.2.1, o_1.2.2.2.2.2.2.1, o_1.2.2.2.2.2.2.2.1, ()), ())
    else
    (wire_Numbers b_0 o_1.2.2.2.2.2.2.2.1).bind fun r_45 =>
    some ((r_45.1.1, [0], ()), ())
  else
  some ((b_0, [], ()), ())

noncomputable def sg9 : Sig := ⟨[.val (.slice (.int .u8)), .val (.agg (.pair (.int .i64) (.pair (.int .i64) (.pair (.int .i64) (.pair (.int .i64) (.pair (.agg (.pair (.int .i64) (.pair (.int .u64) (.pair (.int .u64) .unit)))) (.pair .str (.pair (.slice (.agg (.pair (.int .i64) (.pair (.int .u64) (.pair (.int .u64) .unit))))) (.pair (.slice (.int .i64)) .unit)))))))))], [.val (.slice (.int .u8)), .own (.own (.int .u8))], []⟩
noncomputable def sm9 : CSem := mkSem sg9 fun x => law07_write x.1 x.2.1
noncomputable def cf9 : Cfg := cf [(32, sem32), (33, sem33), (34, sem34), (35, sem35), (31, sem31), (36, sem36), (37, sem37), (38, sem38), (39, sem39), (40, sem40)] 125 0 [(1, ⟨[(0, .dat (.slice (.int .u8))), (3, .loc (nameOf 3 0) []), (6, .own (.int .u8) false), (7, .dat (.int .i64))], [((nameOf 3 0), (.agg (.pair (.int .i64) (.pair (.int .i64) (.pair (.int .i64) (.pair (.int .i64) (.pair (.agg (.pair (.int .i64) (.pair (.int .u64) (.pair (.int .u64) .unit)))) (.pair .str (.pair (.slice (.agg (.pair (.int .i64) (.pair (.int .u64) (.pair (.int .u64) .unit))))) (.pair (.slice (.int .i64)) .unit))))))))))]⟩), (3, ⟨[(0, .dat (.slice (.int .u8))), (3, .loc (nameOf 3 0) []), (8, .own (.int .u8) false), (9, .dat (.int .i64))], [((nameOf 3 0), (.agg (.pair (.int .i64) (.pair (.int .i64) (.pair (.int .i64) (.pair (.int .i64) (.pair (.agg (.pair (.int .i64) (.pair (.int .u64) (.pair (.int .u64) .unit)))) (.pair .str (.pair (.slice (.agg (.pair (.int .i64) (.pair (.int .u64) (.pair (.int .u64) .unit))))) (.pair (.slice (.int .i64)) .unit))))))))))]⟩)]

noncomputable def sem9 : CSem := sm9

/-! ### shunter/shunterlaw07.WireWrites -/
noncomputable def law07_WireWrites_s0 (ops_0_0 : List (Int × Int × Int × Int × (Int × Int × Int × Unit) × (List Int) × (List (Int × Int × Int × Unit)) × (List Int) × Unit)) (b_3_0 : List Int) (i_4_0 : Int) : Option ((((List (Int × Int × Int × Int × (Int × Int × Int × Unit) × (List Int) × (List (Int × Int × Int × Unit)) × (List Int) × Unit)) × (List Int) × Int × Unit) × (Unit)) ⊕ ((Bool × Unit) × (Unit))) :=
  bif (decide (i_4_0 < (ops_0_0.length : Int))) then
    (rdI ops_0_0 i_4_0).bind fun v_5 =>
    (law07_write b_3_0 v_5).bind fun r_6 =>
    (catI b_3_0 r_6.1.2.1).bind fun v_7 =>
    bif (!decide (r_6.1.1 = v_7)) then
      some (.inr ((false, ()), ()))
    else
    some (.inl ((ops_0_0, r_6.1.1, (IntKind.i64.wrap (i_4_0 + 1)), ()), ()))
  else
  (law07_lives.bind fun r_10 =>
  some ((r_10.1.1, ()), ())).map .inr
noncomputable def law07_WireWrites (ops_0 : List (Int × Int × Int × Int × (Int × Int × Int × Unit) × (List Int) × (List (Int × Int × Int × Unit)) × (List Int) × Unit)) : Option ((Bool × Unit) × (Unit)) :=
  (law07_light ops_0).bind fun r_1 =>
  bif !r_1.1.1 then
    law07_lives.bind fun r_2 =>
    some ((r_2.1.1, ()), ())
  else
  loopR (fun (z : ((List (Int × Int × Int × Int × (Int × Int × Int × Unit) × (List Int) × (List (Int × Int × Int × Unit)) × (List Int) × Unit)) × (List Int) × Int × Unit) × (Unit)) => law07_WireWrites_s0 z.1.1 z.1.2.1 z.1.2.2.1) ((ops_0, [], 0, ()), ())

noncomputable def sg3 : Sig := ⟨[.val (.slice (.agg (.pair (.int .i64) (.pair (.int .i64) (.pair (.int .i64) (.pair (.int .i64) (.pair (.agg (.pair (.int .i64) (.pair (.int .u64) (.pair (.int .u64) .unit)))) (.pair .str (.pair (.slice (.agg (.pair (.int .i64) (.pair (.int .u64) (.pair (.int .u64) .unit))))) (.pair (.slice (.int .i64)) .unit))))))))))], [.val .bool], []⟩
noncomputable def sm3 : CSem := mkSem sg3 fun x => law07_WireWrites x.1
noncomputable def cf3 : Cfg := cf [(7, sem7), (8, sem8), (9, sem9)] 36 0 [(0, ⟨[(0, .dat (.slice (.agg (.pair (.int .i64) (.pair (.int .i64) (.pair (.int .i64) (.pair (.int .i64) (.pair (.agg (.pair (.int .i64) (.pair (.int .u64) (.pair (.int .u64) .unit)))) (.pair .str (.pair (.slice (.agg (.pair (.int .i64) (.pair (.int .u64) (.pair (.int .u64) .unit))))) (.pair (.slice (.int .i64)) .unit))))))))))), (3, .dat (.slice (.int .u8))), (4, .dat (.int .i64))], []⟩)]

noncomputable def sem3 : CSem := sm3

noncomputable def sg25 : Sig := ⟨[.val .nilp, .val (.int .i64)], [], []⟩
noncomputable def sm25 : CSem := mkSem sg25 fun x => wire_Reader_Fail_d6c x.1 x.2.1
noncomputable def cf25 : Cfg := cf [] 16 0 []

noncomputable def sem25 : CSem := sm25

-- never comes back

-- 23 never comes back

/-! ### shunter/shunterlaw07.WireFaults -/
noncomputable def law07_WireFaults (b_0 : List Int) (n_1 : Int) : Option ((Bool × Unit) × (Unit)) :=
  bif (decide ((b_0.length : Int) > 500)) then
    law07_lives.bind fun r_3 =>
    some ((r_3.1.1, ()), ())
  else
  (wire_Reader_Fail_d6c () 4).bind fun r_4 =>
  none

noncomputable def sg6 : Sig := ⟨[.val (.slice (.int .u8)), .val (.int .i64)], [.val .bool], []⟩
noncomputable def sm6 : CSem := mkSem sg6 fun x => law07_WireFaults x.1 x.2.1
noncomputable def cf6 : Cfg := cf [(8, sem8), (25, sem25)] 203 0 []

noncomputable def sem6 : CSem := sm6

end Go.Proofs.Ytffgheglileflaa

namespace Go.Proofs.Ytffgheglileflaa
open Go Go.Pv Go.Proofs Go.L
set_option maxRecDepth 100000

theorem r51 (word_Shl : (Int × Int × Unit) → Int → Option (((Int × Int × Unit) × Unit) × (Unit))) (word_Shr : (Int × Int × Unit) → Int → Option (((Int × Int × Unit) × Unit) × (Unit))) (x : ArgT ag51) : runFAM (cf51 word_Shl word_Shr) ag51 al51 (bodyOf Try.f51) [(4, some 91)] x = word_Shl_g word_Shl word_Shr x.1 x.2.1 := by kernel_rfl

theorem r34 (x : ArgT sg34.args) : runFM cf34 sg34 (bodyOf Try.f34) [4] x = wire_Two x.1 x.2.1 := by kernel_rfl

theorem r67 (x : ArgT sg67.args) : runFM cf67 sg67 (bodyOf Try.f67) [2] x = ref03_Bytes x.1 := by kernel_rfl

theorem r38 (x : ArgT sg38.args) : runFM cf38 sg38 (bodyOf Try.f38) [2] x = ref07_Name x.1 := by kernel_rfl

theorem r70 (x : ArgT sg70.args) : runFM cf70 sg70 (bodyOf Try.f70) [2] x = vec_width x.1 := by kernel_rfl

theorem r49 (x : ArgT sg49.args) : runFM cf49 sg49 (bodyOf Try.f49) [2] x = wire_room x.1 := by kernel_rfl

theorem r41 (x : ArgT sg41.args) : runFM cf41 sg41 (bodyOf Try.f41) [2] x = ref01_Len x.1 := by kernel_rfl

theorem r36 (x : ArgT sg36.args) : runFM cf36 sg36 (bodyOf Try.f36) [2] x = ref07_Vec x.1 := by kernel_rfl

theorem r7 (x : ArgT sg7.args) : runFM cf7 sg7 (bodyOf Try.f7) [2] x = law07_light x.1 := by kernel_rfl

end Go.Proofs.Ytffgheglileflaa

namespace Go.Proofs.Ytffgheglileflaa
open Go Go.Pv Go.Proofs Go.L
set_option maxRecDepth 100000

theorem r64 (word_Shl : (Int × Int × Unit) → Int → Option (((Int × Int × Unit) × Unit) × (Unit))) (word_Shr : (Int × Int × Unit) → Int → Option (((Int × Int × Unit) × Unit) × (Unit))) (x : ArgT ag64) : runFAM (cf64 word_Shl word_Shr) ag64 al64 (bodyOf Try.f64) [(4, some 91)] x = word_Shr_g word_Shl word_Shr x.1 x.2.1 := by kernel_rfl

theorem r81 (x : ArgT sg81.args) : runFM cf81 sg81 (bodyOf Try.f81) [2] x = slices_Clip_byte_byte x.1 := by kernel_rfl

theorem r65 (x : ArgT ag65) : runFAM cf65 ag65 al65 (bodyOf Try.f65) [(2, some 91)] x = vec_Word x.1 := by kernel_rfl

theorem r33 (x : ArgT sg33.args) : runFM cf33 sg33 (bodyOf Try.f33) [4] x = ref07_Number x.1 x.2.1 := by kernel_rfl

theorem r37 (x : ArgT sg37.args) : runFM cf37 sg37 (bodyOf Try.f37) [4] x = wire_Name x.1 x.2.1 := by kernel_rfl

theorem r31 (x : ArgT sg31.args) : runFM cf31 sg31 (bodyOf Try.f31) [4] x = wire_Vec x.1 x.2.1 := by kernel_rfl

theorem r90 (x : ArgT sg90.args) : runFM cf90 sg90 (bodyOf Try.f90) [2] x = bits_Len64 x.1 := by kernel_rfl

end Go.Proofs.Ytffgheglileflaa

namespace Go.Proofs.Ytffgheglileflaa
open Go Go.Pv Go.Proofs Go.L
set_option maxRecDepth 100000

theorem r42 (x : ArgT ag42) : runFAM cf42 ag42 al42 (bodyOf Try.f42) [(4, some 77)] x = ref01_Of x.1 x.2.1 := by kernel_rfl

theorem r40 (x : ArgT sg40.args) : runFM cf40 sg40 (bodyOf Try.f40) [4] x = wire_Numbers x.1 x.2.1 := by kernel_rfl

theorem r9 (x : ArgT sg9.args) : runFM cf9 sg9 (bodyOf Try.f9) [4, 5] x = law07_write x.1 x.2.1 := by kernel_rfl

theorem r62 (x : ArgT sg62.args) : runFM cf62 sg62 (bodyOf Try.f62) [2] x = vec_May x.1 := by kernel_rfl

theorem r8 (x : ArgT sg8.args) : runFM cf8 sg8 (bodyOf Try.f8) [0] x = law07_lives := by kernel_rfl

end Go.Proofs.Ytffgheglileflaa

namespace Go.Proofs.Ytffgheglileflaa
open Go Go.Pv Go.Proofs Go.L
set_option maxRecDepth 100000

theorem r25 (x : ArgT sg25.args) : runFM cf25 sg25 (bodyOf Try.f25) [] x = wire_Reader_Fail_d6c x.1 x.2.1 := by kernel_rfl

theorem r63 (x : ArgT sg63.args) : runFM cf63 sg63 (bodyOf Try.f63) [6] x = wire_put x.1 x.2.1 x.2.2.1 := by kernel_rfl

theorem r6 (x : ArgT sg6.args) : runFM cf6 sg6 (bodyOf Try.f6) [4] x = law07_WireFaults x.1 x.2.1 := by kernel_rfl

theorem r32 (x : ArgT sg32.args) : runFM cf32 sg32 (bodyOf Try.f32) [4] x = wire_Byte x.1 x.2.1 := by kernel_rfl

theorem r35 (x : ArgT sg35.args) : runFM cf35 sg35 (bodyOf Try.f35) [4] x = wire_Four x.1 x.2.1 := by kernel_rfl

theorem r39 (x : ArgT sg39.args) : runFM cf39 sg39 (bodyOf Try.f39) [4] x = wire_Vecs x.1 x.2.1 := by kernel_rfl

theorem r45 (x : ArgT sg45.args) : runFM cf45 sg45 (bodyOf Try.f45) [2] x = bytes_Clone x.1 := by kernel_rfl

theorem r3 (x : ArgT sg3.args) : runFM cf3 sg3 (bodyOf Try.f3) [2] x = law07_WireWrites x.1 := by kernel_rfl

theorem r66 (x : ArgT sg66.args) : runFM cf66 sg66 (bodyOf Try.f66) [2] x = ref02_Bits x.1 := by kernel_rfl

theorem r10 (x : ArgT sg10.args) : runFM cf10 sg10 (bodyOf Try.f10) [2] x = ref02_May x.1 := by kernel_rfl

theorem r80 (x : ArgT sg80.args) : runFM cf80 sg80 (bodyOf Try.f80) [2] x = word_Len x.1 := by kernel_rfl

theorem r68 (x : ArgT sg68.args) : runFM cf68 sg68 (bodyOf Try.f68) [2] x = ref03_Of x.1 := by kernel_rfl

end Go.Proofs.Ytffgheglileflaa

namespace Go.Proofs.Ytffgheglileflaa
open Go Go.Pv Go.Proofs Go.L
set_option maxRecDepth 100000

theorem c7 : Contract Try.prog 7 sm7 :=
  contract_ofM (C := cf7) (fun f sem h => (Tab.nil : Tab _) _ (lk_mem' h)) (S := sg7) (fn := Try.f7) (c := bodyOf Try.f7) (ts := [2]) Try.func7 (by kernel_rfl) (by kernel_rfl) (by kernel_rfl) (by kernel_rfl) (by kernel_rfl) (by kernel_rfl) (by kernel_rfl) r7

theorem k7 : Contract Try.prog 7 sem7 := c7

theorem c70 : Contract Try.prog 70 sm70 :=
  contract_ofM (C := cf70) (fun f sem h => (Tab.nil : Tab _) _ (lk_mem' h)) (S := sg70) (fn := Try.f70) (c := bodyOf Try.f70) (ts := [2]) Try.func70 (by kernel_rfl) (by kernel_rfl) (by kernel_rfl) (by kernel_rfl) (by kernel_rfl) (by kernel_rfl) (by kernel_rfl) r70

theorem k70 : Contract Try.prog 70 sem70 := c70

theorem c65 : Contract Try.prog 65 sm65 :=
  contract_ofAM (C := cf65) (fun f sem h => (Tab.nil : Tab _) _ (lk_mem' h)) (args := ag65) (alts := al65) (fn := Try.f65) (c := bodyOf Try.f65) (ts := [(2, some 91)]) Try.func65 (by kernel_rfl) (by kernel_rfl) (by kernel_rfl) (by kernel_rfl) (by kernel_rfl) (by kernel_rfl) (by kernel_rfl) r65

theorem k65 : Contract Try.prog 65 sem65 := c65

theorem c90 : Contract Try.prog 90 sm90 :=
  contract_ofM (C := cf90) (fun f sem h => (Tab.nil : Tab _) _ (lk_mem' h)) (S := sg90) (fn := Try.f90) (c := bodyOf Try.f90) (ts := [2]) Try.func90 (by kernel_rfl) (by kernel_rfl) (by kernel_rfl) (by kernel_rfl) (by kernel_rfl) (by kernel_rfl) (by kernel_rfl) r90

theorem k90 : Contract Try.prog 90 sem90 := c90

theorem c80 : Contract Try.prog 80 sm80 :=
  contract_ofM (C := cf80) (fun f sem h => (Tab.cons k90 Tab.nil : Tab _) _ (lk_mem' h)) (S := sg80) (fn := Try.f80) (c := bodyOf Try.f80) (ts := [2]) Try.func80 (by kernel_rfl) (by kernel_rfl) (by kernel_rfl) (by kernel_rfl) (by kernel_rfl) (by kernel_rfl) (by kernel_rfl) r80

theorem k80 : Contract Try.prog 80 sem80 := c80

theorem c62 : Contract Try.prog 62 sm62 :=
  contract_ofM (C := cf62) (fun f sem h => (Tab.cons k70 (Tab.cons k65 (Tab.cons k80 Tab.nil)) : Tab _) _ (lk_mem' h)) (S := sg62) (fn := Try.f62) (c := bodyOf Try.f62) (ts := [2]) Try.func62 (by kernel_rfl) (by kernel_rfl) (by kernel_rfl) (by kernel_rfl) (by kernel_rfl) (by kernel_rfl) (by kernel_rfl) r62

theorem k62 : Contract Try.prog 62 sem62 := c62

theorem c45 : Contract Try.prog 45 sm45 :=
  contract_ofM (C := cf45) (fun f sem h => (Tab.nil : Tab _) _ (lk_mem' h)) (S := sg45) (fn := Try.f45) (c := bodyOf Try.f45) (ts := [2]) Try.func45 (by kernel_rfl) (by kernel_rfl) (by kernel_rfl) (by kernel_rfl) (by kernel_rfl) (by kernel_rfl) (by kernel_rfl) r45

theorem k45 : Contract Try.prog 45 sem45 := c45

theorem c81 : Contract Try.prog 81 sm81 :=
  contract_ofM (C := cf81) (fun f sem h => (Tab.nil : Tab _) _ (lk_mem' h)) (S := sg81) (fn := Try.f81) (c := bodyOf Try.f81) (ts := [2]) Try.func81 (by kernel_rfl) (by kernel_rfl) (by kernel_rfl) (by kernel_rfl) (by kernel_rfl) (by kernel_rfl) (by kernel_rfl) r81

theorem k81 : Contract Try.prog 81 sem81 := c81

theorem c63 : Contract Try.prog 63 sm63 :=
  contract_ofM (C := cf63) (fun f sem h => (Tab.cons k45 (Tab.cons k81 Tab.nil) : Tab _) _ (lk_mem' h)) (S := sg63) (fn := Try.f63) (c := bodyOf Try.f63) (ts := [6]) Try.func63 (by kernel_rfl) (by kernel_rfl) (by kernel_rfl) (by kernel_rfl) (by kernel_rfl) (by kernel_rfl) (by kernel_rfl) r63

theorem k63 : Contract Try.prog 63 sem63 := c63

theorem c49 : Contract Try.prog 49 sm49 :=
  contract_ofM (C := cf49) (fun f sem h => (Tab.nil : Tab _) _ (lk_mem' h)) (S := sg49) (fn := Try.f49) (c := bodyOf Try.f49) (ts := [2]) Try.func49 (by kernel_rfl) (by kernel_rfl) (by kernel_rfl) (by kernel_rfl) (by kernel_rfl) (by kernel_rfl) (by kernel_rfl) r49

theorem k49 : Contract Try.prog 49 sem49 := c49

theorem c51S (word_Shl : (Int × Int × Unit) → Int → Option (((Int × Int × Unit) × Unit) × (Unit))) (word_Shr : (Int × Int × Unit) → Int → Option (((Int × Int × Unit) × Unit) × (Unit))) (h51 : Contract Try.prog 51 (sm51 word_Shl)) (h64 : Contract Try.prog 64 (sm64 word_Shr)) : Contract Try.prog 51 (sm51 (word_Shl_g word_Shl word_Shr)) :=
  contract_ofAM (C := cf51 word_Shl word_Shr) (fun f sem h => (Tab.cons h64 Tab.nil : Tab _) _ (lk_mem' h)) (args := ag51) (alts := al51) (fn := Try.f51) (c := bodyOf Try.f51) (ts := [(4, some 91)]) Try.func51 (by kernel_rfl) (by kernel_rfl) (by kernel_rfl) (by kernel_rfl) (by kernel_rfl) (by kernel_rfl) (by kernel_rfl) (r51 word_Shl word_Shr)
theorem c64S (word_Shl : (Int × Int × Unit) → Int → Option (((Int × Int × Unit) × Unit) × (Unit))) (word_Shr : (Int × Int × Unit) → Int → Option (((Int × Int × Unit) × Unit) × (Unit))) (h51 : Contract Try.prog 51 (sm51 word_Shl)) (h64 : Contract Try.prog 64 (sm64 word_Shr)) : Contract Try.prog 64 (sm64 (word_Shr_g word_Shl word_Shr)) :=
  contract_ofAM (C := cf64 word_Shl word_Shr) (fun f sem h => (Tab.cons h51 Tab.nil : Tab _) _ (lk_mem' h)) (args := ag64) (alts := al64) (fn := Try.f64) (c := bodyOf Try.f64) (ts := [(4, some 91)]) Try.func64 (by kernel_rfl) (by kernel_rfl) (by kernel_rfl) (by kernel_rfl) (by kernel_rfl) (by kernel_rfl) (by kernel_rfl) (r64 word_Shl word_Shr)
theorem lc64 : ∀ k, Contract Try.prog 51 (sm51 ((word_Shr_lv k).1)) ∧ Contract Try.prog 64 (sm64 ((word_Shr_lv k).2))
  | 0 => ⟨(by intro avs s hs r hr w B os ow vs _ _; obtain ⟨x, hx, rfl⟩ := Option.map_eq_some_iff.1 hs; cases hr), (by intro avs s hs r hr w B os ow vs _ _; obtain ⟨x, hx, rfl⟩ := Option.map_eq_some_iff.1 hs; cases hr)⟩
  | k + 1 => by
    have ih := lc64 k
    exact ⟨c51S _ _ ih.1 ih.2, c64S _ _ ih.1 ih.2⟩
theorem c51 : Contract Try.prog 51 (sm51 word_Shl) := (lc64 3).1
theorem c64 : Contract Try.prog 64 (sm64 word_Shr) := (lc64 3).2

theorem k51 : Contract Try.prog 51 sem51 := c51

theorem k64 : Contract Try.prog 64 sem64 := c64

theorem c31 : Contract Try.prog 31 sm31 :=
  contract_ofM (C := cf31) (fun f sem h => (Tab.cons k62 (Tab.cons k63 (Tab.cons k49 (Tab.cons k65 (Tab.cons k64 Tab.nil)))) : Tab _) _ (lk_mem' h)) (S := sg31) (fn := Try.f31) (c := bodyOf Try.f31) (ts := [4]) Try.func31 (by kernel_rfl) (by kernel_rfl) (by kernel_rfl) (by kernel_rfl) (by kernel_rfl) (by kernel_rfl) (by kernel_rfl) r31

theorem k31 : Contract Try.prog 31 sem31 := c31

theorem c8 : Contract Try.prog 8 sm8 :=
  contract_ofM (C := cf8) (fun f sem h => (Tab.cons k31 Tab.nil : Tab _) _ (lk_mem' h)) (S := sg8) (fn := Try.f8) (c := bodyOf Try.f8) (ts := [0]) Try.func8 (by kernel_rfl) (by kernel_rfl) (by kernel_rfl) (by kernel_rfl) (by kernel_rfl) (by kernel_rfl) (by kernel_rfl) r8

theorem k8 : Contract Try.prog 8 sem8 := c8

theorem c32 : Contract Try.prog 32 sm32 :=
  contract_ofM (C := cf32) (fun f sem h => (Tab.cons k63 Tab.nil : Tab _) _ (lk_mem' h)) (S := sg32) (fn := Try.f32) (c := bodyOf Try.f32) (ts := [4]) Try.func32 (by kernel_rfl) (by kernel_rfl) (by kernel_rfl) (by kernel_rfl) (by kernel_rfl) (by kernel_rfl) (by kernel_rfl) r32

theorem k32 : Contract Try.prog 32 sem32 := c32

theorem c42 : Contract Try.prog 42 sm42 :=
  contract_ofAM (C := cf42) (fun f sem h => (Tab.nil : Tab _) _ (lk_mem' h)) (args := ag42) (alts := al42) (fn := Try.f42) (c := bodyOf Try.f42) (ts := [(4, some 77)]) Try.func42 (by kernel_rfl) (by kernel_rfl) (by kernel_rfl) (by kernel_rfl) (by kernel_rfl) (by kernel_rfl) (by kernel_rfl) r42

theorem k42 : Contract Try.prog 42 sem42 := c42

theorem c66 : Contract Try.prog 66 sm66 :=
  contract_ofM (C := cf66) (fun f sem h => (Tab.cons k42 Tab.nil : Tab _) _ (lk_mem' h)) (S := sg66) (fn := Try.f66) (c := bodyOf Try.f66) (ts := [2]) Try.func66 (by kernel_rfl) (by kernel_rfl) (by kernel_rfl) (by kernel_rfl) (by kernel_rfl) (by kernel_rfl) (by kernel_rfl) r66

theorem k66 : Contract Try.prog 66 sem66 := c66

theorem c67 : Contract Try.prog 67 sm67 :=
  contract_ofM (C := cf67) (fun f sem h => (Tab.nil : Tab _) _ (lk_mem' h)) (S := sg67) (fn := Try.f67) (c := bodyOf Try.f67) (ts := [2]) Try.func67 (by kernel_rfl) (by kernel_rfl) (by kernel_rfl) (by kernel_rfl) (by kernel_rfl) (by kernel_rfl) (by kernel_rfl) r67

theorem k67 : Contract Try.prog 67 sem67 := c67

theorem c33 : Contract Try.prog 33 sm33 :=
  contract_ofM (C := cf33) (fun f sem h => (Tab.cons k66 (Tab.cons k67 Tab.nil) : Tab _) _ (lk_mem' h)) (S := sg33) (fn := Try.f33) (c := bodyOf Try.f33) (ts := [4]) Try.func33 (by kernel_rfl) (by kernel_rfl) (by kernel_rfl) (by kernel_rfl) (by kernel_rfl) (by kernel_rfl) (by kernel_rfl) r33

theorem k33 : Contract Try.prog 33 sem33 := c33

theorem c34 : Contract Try.prog 34 sm34 :=
  contract_ofM (C := cf34) (fun f sem h => (Tab.cons k63 Tab.nil : Tab _) _ (lk_mem' h)) (S := sg34) (fn := Try.f34) (c := bodyOf Try.f34) (ts := [4]) Try.func34 (by kernel_rfl) (by kernel_rfl) (by kernel_rfl) (by kernel_rfl) (by kernel_rfl) (by kernel_rfl) (by kernel_rfl) r34

theorem k34 : Contract Try.prog 34 sem34 := c34

theorem c35 : Contract Try.prog 35 sm35 :=
  contract_ofM (C := cf35) (fun f sem h => (Tab.cons k63 Tab.nil : Tab _) _ (lk_mem' h)) (S := sg35) (fn := Try.f35) (c := bodyOf Try.f35) (ts := [4]) Try.func35 (by kernel_rfl) (by kernel_rfl) (by kernel_rfl) (by kernel_rfl) (by kernel_rfl) (by kernel_rfl) (by kernel_rfl) r35

theorem k35 : Contract Try.prog 35 sem35 := c35

theorem c41 : Contract Try.prog 41 sm41 :=
  contract_ofM (C := cf41) (fun f sem h => (Tab.nil : Tab _) _ (lk_mem' h)) (S := sg41) (fn := Try.f41) (c := bodyOf Try.f41) (ts := [2]) Try.func41 (by kernel_rfl) (by kernel_rfl) (by kernel_rfl) (by kernel_rfl) (by kernel_rfl) (by kernel_rfl) (by kernel_rfl) r41

theorem k41 : Contract Try.prog 41 sem41 := c41

theorem c10 : Contract Try.prog 10 sm10 :=
  contract_ofM (C := cf10) (fun f sem h => (Tab.cons k42 (Tab.cons k41 Tab.nil) : Tab _) _ (lk_mem' h)) (S := sg10) (fn := Try.f10) (c := bodyOf Try.f10) (ts := [2]) Try.func10 (by kernel_rfl) (by kernel_rfl) (by kernel_rfl) (by kernel_rfl) (by kernel_rfl) (by kernel_rfl) (by kernel_rfl) r10

theorem k10 : Contract Try.prog 10 sem10 := c10

theorem c68 : Contract Try.prog 68 sm68 :=
  contract_ofM (C := cf68) (fun f sem h => (Tab.cons k66 Tab.nil : Tab _) _ (lk_mem' h)) (S := sg68) (fn := Try.f68) (c := bodyOf Try.f68) (ts := [2]) Try.func68 (by kernel_rfl) (by kernel_rfl) (by kernel_rfl) (by kernel_rfl) (by kernel_rfl) (by kernel_rfl) (by kernel_rfl) r68

theorem k68 : Contract Try.prog 68 sem68 := c68

theorem c36 : Contract Try.prog 36 sm36 :=
  contract_ofM (C := cf36) (fun f sem h => (Tab.cons k10 (Tab.cons k68 (Tab.cons k67 Tab.nil)) : Tab _) _ (lk_mem' h)) (S := sg36) (fn := Try.f36) (c := bodyOf Try.f36) (ts := [2]) Try.func36 (by kernel_rfl) (by kernel_rfl) (by kernel_rfl) (by kernel_rfl) (by kernel_rfl) (by kernel_rfl) (by kernel_rfl) r36

theorem k36 : Contract Try.prog 36 sem36 := c36

theorem c37 : Contract Try.prog 37 sm37 :=
  contract_ofM (C := cf37) (fun f sem h => (Tab.cons k63 Tab.nil : Tab _) _ (lk_mem' h)) (S := sg37) (fn := Try.f37) (c := bodyOf Try.f37) (ts := [4]) Try.func37 (by kernel_rfl) (by kernel_rfl) (by kernel_rfl) (by kernel_rfl) (by kernel_rfl) (by kernel_rfl) (by kernel_rfl) r37

theorem k37 : Contract Try.prog 37 sem37 := c37

theorem c38 : Contract Try.prog 38 sm38 :=
  contract_ofM (C := cf38) (fun f sem h => (Tab.nil : Tab _) _ (lk_mem' h)) (S := sg38) (fn := Try.f38) (c := bodyOf Try.f38) (ts := [2]) Try.func38 (by kernel_rfl) (by kernel_rfl) (by kernel_rfl) (by kernel_rfl) (by kernel_rfl) (by kernel_rfl) (by kernel_rfl) r38

theorem k38 : Contract Try.prog 38 sem38 := c38

theorem c39 : Contract Try.prog 39 sm39 :=
  contract_ofM (C := cf39) (fun f sem h => (Tab.cons k63 (Tab.cons k31 Tab.nil) : Tab _) _ (lk_mem' h)) (S := sg39) (fn := Try.f39) (c := bodyOf Try.f39) (ts := [4]) Try.func39 (by kernel_rfl) (by kernel_rfl) (by kernel_rfl) (by kernel_rfl) (by kernel_rfl) (by kernel_rfl) (by kernel_rfl) r39

theorem k39 : Contract Try.prog 39 sem39 := c39

theorem c40 : Contract Try.prog 40 sm40 :=
  contract_ofM (C := cf40) (fun f sem h => (Tab.cons k63 Tab.nil : Tab _) _ (lk_mem' h)) (S := sg40) (fn := Try.f40) (c := bodyOf Try.f40) (ts := [4]) Try.func40 (by kernel_rfl) (by kernel_rfl) (by kernel_rfl) (by kernel_rfl) (by kernel_rfl) (by kernel_rfl) (by kernel_rfl) r40

theorem k40 : Contract Try.prog 40 sem40 := c40

theorem c9 : Contract Try.prog 9 sm9 :=
  contract_ofM (C := cf9) (fun f sem h => (Tab.cons k32 (Tab.cons k33 (Tab.cons k34 (Tab.cons k35 (Tab.cons k31 (Tab.cons k36 (Tab.cons k37 (Tab.cons k38 (Tab.cons k39 (Tab.cons k40 Tab.nil))))))))) : Tab _) _ (lk_mem' h)) (S := sg9) (fn := Try.f9) (c := bodyOf Try.f9) (ts := [4, 5]) Try.func9 (by kernel_rfl) (by kernel_rfl) (by kernel_rfl) (by kernel_rfl) (by kernel_rfl) (by kernel_rfl) (by kernel_rfl) r9

theorem k9 : Contract Try.prog 9 sem9 := c9

theorem c3 : Contract Try.prog 3 sm3 :=
  contract_ofM (C := cf3) (fun f sem h => (Tab.cons k7 (Tab.cons k8 (Tab.cons k9 Tab.nil)) : Tab _) _ (lk_mem' h)) (S := sg3) (fn := Try.f3) (c := bodyOf Try.f3) (ts := [2]) Try.func3 (by kernel_rfl) (by kernel_rfl) (by kernel_rfl) (by kernel_rfl) (by kernel_rfl) (by kernel_rfl) (by kernel_rfl) r3

theorem k3 : Contract Try.prog 3 sem3 := c3

theorem c25 : Contract Try.prog 25 sm25 :=
  contract_ofM (C := cf25) (fun f sem h => (Tab.nil : Tab _) _ (lk_mem' h)) (S := sg25) (fn := Try.f25) (c := bodyOf Try.f25) (ts := []) Try.func25 (by kernel_rfl) (by kernel_rfl) (by kernel_rfl) (by kernel_rfl) (by kernel_rfl) (by kernel_rfl) (by kernel_rfl) r25

theorem k25 : Contract Try.prog 25 sem25 := c25

theorem c6 : Contract Try.prog 6 sm6 :=
  contract_ofM (C := cf6) (fun f sem h => (Tab.cons k8 (Tab.cons k25 Tab.nil) : Tab _) _ (lk_mem' h)) (S := sg6) (fn := Try.f6) (c := bodyOf Try.f6) (ts := [4]) Try.func6 (by kernel_rfl) (by kernel_rfl) (by kernel_rfl) (by kernel_rfl) (by kernel_rfl) (by kernel_rfl) (by kernel_rfl) r6

theorem k6 : Contract Try.prog 6 sem6 := c6

end Go.Proofs.Ytffgheglileflaa
