/- The functions of this seat, and the laws as plain Lean. -/
import Derived.Test.YtipdifiahmgciaaProg
import Derived.Test.YtipdifiahmgciaaQ6

namespace Go.Proofs.Ytipdifiahmgciaa
open Go Go.Pv Go.Proofs Go.L
set_option maxRecDepth 100000

noncomputable def bodyOf (f : Func) : Code := match f.body with | some c => c | none => .skip
noncomputable def cf (tab : List (Nat × CSem)) (nt nob : Nat) (ann : List (Nat × Shape)) : Cfg := ⟨Try.prog, fun f => lk f tab, nt, nob, fun n => lk n ann⟩
def Tab (tab : List (Nat × CSem)) : Prop := ∀ q ∈ tab, Contract Try.prog q.1 q.2
theorem Tab.nil : Tab [] := fun q h => by cases h
theorem Tab.cons {f : Nat} {sem : CSem} {l : List (Nat × CSem)} (h : Contract Try.prog f sem) (t : Tab l) : Tab ((f, sem) :: l) := fun q hq => by
  rcases List.mem_cons.1 hq with rfl | hq
  · exact h
  · exact t q hq

noncomputable def ag50 : List AK := [.val (.int .u64), .val (.int .u64)]
noncomputable def al50 : List Alt := [([.val (.agg (.arr 128 .bool))], [])]
noncomputable def sm50 : CSem := mkSemA ag50 al50 fun x => ref01_Of x.1 x.2.1
noncomputable def cf50 : Cfg := cf [] 27 0 [(0, ⟨[(0, .dat (.int .u64)), (1, .dat (.int .u64)), (4, .loc (nameOf 4 0) []), (5, .loc (nameOf 5 0) []), (6, .dat (.int .i64))], [((nameOf 4 0), (.agg (.arr 128 .bool))), ((nameOf 5 0), (.agg (.arr 128 .bool)))]⟩)]

noncomputable def sem50 : CSem := sm50

noncomputable def sg49 : Sig := ⟨[.val (.agg (.arr 128 .bool))], [.val (.int .i64)], []⟩
noncomputable def sm49 : CSem := mkSem sg49 fun x => ref01_Len x.1
noncomputable def cf49 : Cfg := cf [] 13 0 [(0, ⟨[(1, .loc (nameOf 1 0) []), (3, .dat (.int .i64))], [((nameOf 1 0), (.agg (.arr 128 .bool)))]⟩)]

noncomputable def sem49 : CSem := sm49

noncomputable def sg10 : Sig := ⟨[.val (.agg (.pair (.int .i64) (.pair (.int .u64) (.pair (.int .u64) .unit))))], [.val .bool], []⟩
noncomputable def sm10 : CSem := mkSem sg10 fun x => ref02_May x.1
noncomputable def cf10 : Cfg := cf [(50, sem50), (49, sem49)] 22 0 []

noncomputable def sem10 : CSem := sm10

noncomputable def sg51 : Sig := ⟨[.val (.int .i64)], [.val .bool], []⟩
noncomputable def sm51 : CSem := mkSem sg51 fun x => vec_width x.1
noncomputable def cf51 : Cfg := cf [] 9 0 []

noncomputable def sem51 : CSem := sm51

noncomputable def ag14 : List AK := [.val (.agg (.pair (.int .i64) (.pair (.int .u64) (.pair (.int .u64) .unit))))]
noncomputable def al14 : List Alt := [([.val (.agg (.pair (.int .u64) (.pair (.int .u64) .unit)))], [])]
noncomputable def sm14 : CSem := mkSemA ag14 al14 fun x => vec_Word x.1
noncomputable def cf14 : Cfg := cf [] 8 0 []

noncomputable def sem14 : CSem := sm14

noncomputable def sg79 : Sig := ⟨[.val (.int .u64)], [.val (.int .i64)], []⟩
noncomputable def sm79 : CSem := mkSem sg79 fun x => bits_Len64 x.1
noncomputable def cf79 : Cfg := cf [] 25 0 []

noncomputable def sem79 : CSem := sm79

noncomputable def sg55 : Sig := ⟨[.val (.agg (.pair (.int .u64) (.pair (.int .u64) .unit)))], [.val (.int .i64)], []⟩
noncomputable def sm55 : CSem := mkSem sg55 fun x => word_Len x.1
noncomputable def cf55 : Cfg := cf [(79, sem79)] 13 0 []

noncomputable def sem55 : CSem := sm55

noncomputable def sg13 : Sig := ⟨[.val (.agg (.pair (.int .i64) (.pair (.int .u64) (.pair (.int .u64) .unit))))], [.val .bool], []⟩
noncomputable def sm13 : CSem := mkSem sg13 fun x => vec_May x.1
noncomputable def cf13 : Cfg := cf [(51, sem51), (14, sem14), (55, sem55)] 14 0 []

noncomputable def sem13 : CSem := sm13

noncomputable def ag11 : List AK := [.val (.int .i64), .val (.int .u64), .val (.int .u64)]
noncomputable def al11 : List Alt := [([.val (.agg (.pair (.int .i64) (.pair (.int .u64) (.pair (.int .u64) .unit)))), .val (.int .i64)], [])]
noncomputable def sm11 : CSem := mkSemA ag11 al11 fun x => vec_New x.1 x.2.1 x.2.2.1
noncomputable def cf11 : Cfg := cf [(51, sem51), (13, sem13)] 24 0 []

noncomputable def sem11 : CSem := sm11

noncomputable def ag72 : List AK := [.val (.agg (.pair (.int .u64) (.pair (.int .u64) .unit)))]
noncomputable def al72 : List Alt := [([.val (.agg (.pair (.int .u64) (.pair (.int .u64) .unit)))], [])]
noncomputable def sm72 : CSem := mkSemA ag72 al72 fun x => word_Not x.1
noncomputable def cf72 : Cfg := cf [] 10 0 []

noncomputable def sem72 : CSem := sm72

noncomputable def ag59 : List AK := [.val (.agg (.pair (.int .u64) (.pair (.int .u64) .unit))), .val (.int .i64)]
noncomputable def al59 : List Alt := [([.val (.agg (.pair (.int .u64) (.pair (.int .u64) .unit)))], [])]
noncomputable def sm59 (word_Shl : (Int × Int × Unit) → Int → Option (((Int × Int × Unit) × Unit) × (Unit))) : CSem := mkSemA ag59 al59 fun x => word_Shl x.1 x.2.1
noncomputable def ag57 : List AK := [.val (.agg (.pair (.int .u64) (.pair (.int .u64) .unit))), .val (.int .i64)]
noncomputable def al57 : List Alt := [([.val (.agg (.pair (.int .u64) (.pair (.int .u64) .unit)))], [])]
noncomputable def sm57 (word_Shr : (Int × Int × Unit) → Int → Option (((Int × Int × Unit) × Unit) × (Unit))) : CSem := mkSemA ag57 al57 fun x => word_Shr x.1 x.2.1
noncomputable def cf59 (word_Shl : (Int × Int × Unit) → Int → Option (((Int × Int × Unit) × Unit) × (Unit))) (word_Shr : (Int × Int × Unit) → Int → Option (((Int × Int × Unit) × Unit) × (Unit))) : Cfg := cf [(57, sm57 word_Shr)] 48 0 []
noncomputable def cf57 (word_Shl : (Int × Int × Unit) → Int → Option (((Int × Int × Unit) × Unit) × (Unit))) (word_Shr : (Int × Int × Unit) → Int → Option (((Int × Int × Unit) × Unit) × (Unit))) : Cfg := cf [(59, sm59 word_Shl)] 48 0 []

noncomputable def sem57 : CSem := (sm57 word_Shr)

noncomputable def sem59 : CSem := (sm59 word_Shl)

noncomputable def sm81 : CSem := sub64Sem

noncomputable def sem81 : CSem := sm81

noncomputable def ag64 : List AK := [.val (.agg (.pair (.int .u64) (.pair (.int .u64) .unit))), .val (.agg (.pair (.int .u64) (.pair (.int .u64) .unit)))]
noncomputable def al64 : List Alt := [([.val (.agg (.pair (.int .u64) (.pair (.int .u64) .unit))), .val .bool], [])]
noncomputable def sm64 : CSem := mkSemA ag64 al64 fun x => word_Sub x.1 x.2.1
noncomputable def cf64 : Cfg := cf [(81, sem81)] 32 0 []

noncomputable def sem64 : CSem := sm64

noncomputable def ag54 : List AK := [.val (.int .i64)]
noncomputable def al54 : List Alt := [([.val (.agg (.pair (.int .u64) (.pair (.int .u64) .unit)))], [])]
noncomputable def sm54 : CSem := mkSemA ag54 al54 fun x => word_Ones x.1
noncomputable def cf54 : Cfg := cf [(72, sem72), (59, sem59), (64, sem64)] 23 0 []

noncomputable def sem54 : CSem := sm54

noncomputable def ag53 : List AK := [.val (.agg (.pair (.int .u64) (.pair (.int .u64) .unit))), .val (.agg (.pair (.int .u64) (.pair (.int .u64) .unit)))]
noncomputable def al53 : List Alt := [([.val (.agg (.pair (.int .u64) (.pair (.int .u64) .unit)))], [])]
noncomputable def sm53 : CSem := mkSemA ag53 al53 fun x => word_And x.1 x.2.1
noncomputable def cf53 : Cfg := cf [] 16 0 []

noncomputable def sem53 : CSem := sm53

noncomputable def ag52 : List AK := [.val (.int .i64), .val (.agg (.pair (.int .u64) (.pair (.int .u64) .unit)))]
noncomputable def al52 : List Alt := [([.val (.agg (.pair (.int .i64) (.pair (.int .u64) (.pair (.int .u64) .unit))))], [])]
noncomputable def sm52 : CSem := mkSemA ag52 al52 fun x => vec_row x.1 x.2.1
noncomputable def cf52 : Cfg := cf [] 11 0 []

noncomputable def sem52 : CSem := sm52

noncomputable def ag12 : List AK := [.val (.int .i64), .val (.agg (.pair (.int .u64) (.pair (.int .u64) .unit)))]
noncomputable def al12 : List Alt := [([.val (.agg (.pair (.int .i64) (.pair (.int .u64) (.pair (.int .u64) .unit)))), .val (.int .i64)], [])]
noncomputable def sm12 : CSem := mkSemA ag12 al12 fun x => vec_Cut x.1 x.2.1
noncomputable def cf12 : Cfg := cf [(51, sem51), (54, sem54), (53, sem53), (52, sem52)] 16 0 []

noncomputable def sem12 : CSem := sm12

noncomputable def ag15 : List AK := [.val .bool]
noncomputable def al15 : List Alt := [([.val (.agg (.pair (.int .i64) (.pair (.int .u64) (.pair (.int .u64) .unit))))], [])]
noncomputable def sm15 : CSem := mkSemA ag15 al15 fun x => vec_Truth x.1
noncomputable def cf15 : Cfg := cf [] 6 0 []

noncomputable def sem15 : CSem := sm15

noncomputable def sm80 : CSem := add64Sem

noncomputable def sem80 : CSem := sm80

noncomputable def ag62 : List AK := [.val (.agg (.pair (.int .u64) (.pair (.int .u64) .unit))), .val (.agg (.pair (.int .u64) (.pair (.int .u64) .unit)))]
noncomputable def al62 : List Alt := [([.val (.agg (.pair (.int .u64) (.pair (.int .u64) .unit))), .val .bool], [])]
noncomputable def sm62 : CSem := mkSemA ag62 al62 fun x => word_Add x.1 x.2.1
noncomputable def cf62 : Cfg := cf [(80, sem80)] 32 0 []

noncomputable def sem62 : CSem := sm62

noncomputable def ag61 : List AK := [.val (.agg (.pair (.int .u64) (.pair (.int .u64) .unit))), .val (.agg (.pair (.int .u64) (.pair (.int .u64) .unit)))]
noncomputable def al61 : List Alt := [([.val (.agg (.pair (.int .u64) (.pair (.int .u64) .unit)))], [])]
noncomputable def sm61 : CSem := mkSemA ag61 al61 fun x => vec_Add_1 x.1 x.2.1
noncomputable def cf61 : Cfg := cf [(62, sem62)] 14 0 []

noncomputable def sem61 : CSem := sm61

noncomputable def sg66 : Sig := ⟨[.val (.agg (.pair (.int .u64) (.pair (.int .u64) .unit))), .val (.agg (.pair (.int .u64) (.pair (.int .u64) .unit)))], [.val (.int .i64)], []⟩
noncomputable def sm66 : CSem := mkSem sg66 fun x => word_Cmp x.1 x.2.1
noncomputable def cf66 : Cfg := cf [(64, sem64)] 19 0 []

noncomputable def sem66 : CSem := sm66

noncomputable def ag65 : List AK := [.val (.agg (.pair (.int .u64) (.pair (.int .u64) .unit))), .val (.agg (.pair (.int .u64) (.pair (.int .u64) .unit))), .obj (.agg (.pair (.int .u64) (.pair (.int .u64) .unit)))]
noncomputable def al65 : List Alt := [([.val (.agg (.pair (.int .u64) (.pair (.int .u64) .unit)))], [(.agg (.pair (.int .u64) (.pair (.int .u64) .unit)))])]
noncomputable def sm65 : CSem := mkSemA ag65 al65 fun x => vec_AddSat_1_6da x.1 x.2.1 x.2.2.1
noncomputable def cf65 : Cfg := cf [(62, sem62), (66, sem66)] 23 1 []

noncomputable def sem65 : CSem := sm65

noncomputable def ag63 : List AK := [.val (.agg (.pair (.int .u64) (.pair (.int .u64) .unit))), .val (.agg (.pair (.int .u64) (.pair (.int .u64) .unit)))]
noncomputable def al63 : List Alt := [([.val (.agg (.pair (.int .u64) (.pair (.int .u64) .unit)))], [])]
noncomputable def sm63 : CSem := mkSemA ag63 al63 fun x => vec_Sub_1 x.1 x.2.1
noncomputable def cf63 : Cfg := cf [(64, sem64)] 14 0 []

noncomputable def sem63 : CSem := sm63

noncomputable def ag67 : List AK := [.val (.agg (.pair (.int .u64) (.pair (.int .u64) .unit))), .val (.agg (.pair (.int .u64) (.pair (.int .u64) .unit)))]
noncomputable def al67 : List Alt := [([.val (.agg (.pair (.int .u64) (.pair (.int .u64) .unit)))], [])]
noncomputable def sm67 : CSem := mkSemA ag67 al67 fun x => vec_SubSat_1 x.1 x.2.1
noncomputable def cf67 : Cfg := cf [(64, sem64)] 16 0 []

noncomputable def sem67 : CSem := sm67

noncomputable def ag58 : List AK := [.val (.agg (.pair (.int .u64) (.pair (.int .u64) .unit))), .val (.agg (.pair (.int .u64) (.pair (.int .u64) .unit)))]
noncomputable def al58 : List Alt := [([.val (.agg (.pair (.int .u64) (.pair (.int .u64) .unit)))], [])]
noncomputable def sm58 : CSem := mkSemA ag58 al58 fun x => word_Or x.1 x.2.1
noncomputable def cf58 : Cfg := cf [] 16 0 []

noncomputable def sem58 : CSem := sm58

noncomputable def ag68 : List AK := [.val (.agg (.pair (.int .u64) (.pair (.int .u64) .unit))), .val (.agg (.pair (.int .u64) (.pair (.int .u64) .unit)))]
noncomputable def al68 : List Alt := [([.val (.agg (.pair (.int .u64) (.pair (.int .u64) .unit)))], [])]
noncomputable def sm68 : CSem := mkSemA ag68 al68 fun x => word_Xor x.1 x.2.1
noncomputable def cf68 : Cfg := cf [] 16 0 []

noncomputable def sem68 : CSem := sm68

noncomputable def ag60 : List AK := [.val (.agg (.pair (.int .i64) (.pair (.int .u64) (.pair (.int .u64) .unit)))), .val (.agg (.pair (.int .i64) (.pair (.int .u64) (.pair (.int .u64) .unit)))), .fnc 61]
noncomputable def al60 : List Alt := [([.val (.agg (.pair (.int .i64) (.pair (.int .u64) (.pair (.int .u64) .unit)))), .val (.int .i64)], [])]
noncomputable def sm60 : CSem := mkSemA ag60 al60 fun x => vec_two_c74 x.1 x.2.1
noncomputable def cf60 : Cfg := cf [(13, sem13), (14, sem14), (61, sem61), (12, sem12)] 36 0 []

noncomputable def ag60a : List AK := [.val (.agg (.pair (.int .i64) (.pair (.int .u64) (.pair (.int .u64) .unit)))), .val (.agg (.pair (.int .i64) (.pair (.int .u64) (.pair (.int .u64) .unit)))), .fno 65 (.agg (.pair (.int .u64) (.pair (.int .u64) .unit)))]
noncomputable def al60a : List Alt := [([.val (.agg (.pair (.int .i64) (.pair (.int .u64) (.pair (.int .u64) .unit)))), .val (.int .i64)], [(.agg (.pair (.int .u64) (.pair (.int .u64) .unit)))])]
noncomputable def sm60a : CSem := mkSemA ag60a al60a fun x => vec_two_575 x.1 x.2.1 x.2.2.1
noncomputable def cf60a : Cfg := cf [(13, sem13), (14, sem14), (65, sem65), (12, sem12)] 36 1 []

noncomputable def ag60b : List AK := [.val (.agg (.pair (.int .i64) (.pair (.int .u64) (.pair (.int .u64) .unit)))), .val (.agg (.pair (.int .i64) (.pair (.int .u64) (.pair (.int .u64) .unit)))), .fnc 53]
noncomputable def al60b : List Alt := [([.val (.agg (.pair (.int .i64) (.pair (.int .u64) (.pair (.int .u64) .unit)))), .val (.int .i64)], [])]
noncomputable def sm60b : CSem := mkSemA ag60b al60b fun x => vec_two_d65 x.1 x.2.1
noncomputable def cf60b : Cfg := cf [(13, sem13), (14, sem14), (53, sem53), (12, sem12)] 36 0 []

noncomputable def ag60c : List AK := [.val (.agg (.pair (.int .i64) (.pair (.int .u64) (.pair (.int .u64) .unit)))), .val (.agg (.pair (.int .i64) (.pair (.int .u64) (.pair (.int .u64) .unit)))), .fnc 63]
noncomputable def al60c : List Alt := [([.val (.agg (.pair (.int .i64) (.pair (.int .u64) (.pair (.int .u64) .unit)))), .val (.int .i64)], [])]
noncomputable def sm60c : CSem := mkSemA ag60c al60c fun x => vec_two_61f x.1 x.2.1
noncomputable def cf60c : Cfg := cf [(13, sem13), (14, sem14), (63, sem63), (12, sem12)] 36 0 []

noncomputable def ag60d : List AK := [.val (.agg (.pair (.int .i64) (.pair (.int .u64) (.pair (.int .u64) .unit)))), .val (.agg (.pair (.int .i64) (.pair (.int .u64) (.pair (.int .u64) .unit)))), .fnc 67]
noncomputable def al60d : List Alt := [([.val (.agg (.pair (.int .i64) (.pair (.int .u64) (.pair (.int .u64) .unit)))), .val (.int .i64)], [])]
noncomputable def sm60d : CSem := mkSemA ag60d al60d fun x => vec_two_c80 x.1 x.2.1
noncomputable def cf60d : Cfg := cf [(13, sem13), (14, sem14), (67, sem67), (12, sem12)] 36 0 []

noncomputable def ag60e : List AK := [.val (.agg (.pair (.int .i64) (.pair (.int .u64) (.pair (.int .u64) .unit)))), .val (.agg (.pair (.int .i64) (.pair (.int .u64) (.pair (.int .u64) .unit)))), .fnc 58]
noncomputable def al60e : List Alt := [([.val (.agg (.pair (.int .i64) (.pair (.int .u64) (.pair (.int .u64) .unit)))), .val (.int .i64)], [])]
noncomputable def sm60e : CSem := mkSemA ag60e al60e fun x => vec_two_bf1 x.1 x.2.1
noncomputable def cf60e : Cfg := cf [(13, sem13), (14, sem14), (58, sem58), (12, sem12)] 36 0 []

noncomputable def ag60f : List AK := [.val (.agg (.pair (.int .i64) (.pair (.int .u64) (.pair (.int .u64) .unit)))), .val (.agg (.pair (.int .i64) (.pair (.int .u64) (.pair (.int .u64) .unit)))), .fnc 68]
noncomputable def al60f : List Alt := [([.val (.agg (.pair (.int .i64) (.pair (.int .u64) (.pair (.int .u64) .unit)))), .val (.int .i64)], [])]
noncomputable def sm60f : CSem := mkSemA ag60f al60f fun x => vec_two_b0d x.1 x.2.1
noncomputable def cf60f : Cfg := cf [(13, sem13), (14, sem14), (68, sem68), (12, sem12)] 36 0 []

noncomputable def sem60 : CSem := orSem sm60 (orSem sm60a (orSem sm60b (orSem sm60c (orSem sm60d (orSem sm60e (sm60f))))))

noncomputable def ag27 : List AK := [.val (.agg (.pair (.int .i64) (.pair (.int .u64) (.pair (.int .u64) .unit)))), .val (.agg (.pair (.int .i64) (.pair (.int .u64) (.pair (.int .u64) .unit))))]
noncomputable def al27 : List Alt := [([.val (.agg (.pair (.int .i64) (.pair (.int .u64) (.pair (.int .u64) .unit)))), .val (.int .i64)], [])]
noncomputable def sm27 : CSem := mkSemA ag27 al27 fun x => vec_Add x.1 x.2.1
noncomputable def cf27 : Cfg := cf [(60, sem60)] 11 0 []

noncomputable def sem27 : CSem := sm27

noncomputable def ag29 : List AK := [.val (.agg (.pair (.int .i64) (.pair (.int .u64) (.pair (.int .u64) .unit)))), .val (.agg (.pair (.int .i64) (.pair (.int .u64) (.pair (.int .u64) .unit))))]
noncomputable def al29 : List Alt := [([.val (.agg (.pair (.int .i64) (.pair (.int .u64) (.pair (.int .u64) .unit)))), .val (.int .i64)], [])]
noncomputable def sm29 : CSem := mkSemA ag29 al29 fun x => vec_AddSat x.1 x.2.1
noncomputable def cf29 : Cfg := cf [(54, sem54), (60, sem60)] 16 0 []

noncomputable def sem29 : CSem := sm29

noncomputable def sg83 : Sig := ⟨[.val (.int .i64)], [.val .bool], []⟩
noncomputable def sm83 : CSem := mkSem sg83 fun x => word_based x.1
noncomputable def cf83 : Cfg := cf [] 9 0 []

noncomputable def sem83 : CSem := sm83

noncomputable def sg102 : Sig := ⟨[.val (.int .u64)], [.val (.int .i64)], []⟩
noncomputable def sm102 : CSem := mkSem sg102 fun x => bits_LeadingZeros64 x.1
noncomputable def cf102 : Cfg := cf [(79, sem79)] 6 0 []

noncomputable def sem102 : CSem := sm102

noncomputable def sg94 : Sig := ⟨[.val (.int .u64), .val (.int .u64), .val (.int .u64)], [.val (.int .u64), .val (.int .u64)], []⟩
noncomputable def sm94 : CSem := mkSem sg94 fun x => bits_Div64 x.1 x.2.1 x.2.2.1
noncomputable def cf94 : Cfg := cf [(102, sem102)] 135 0 [(2, ⟨[(2, .dat (.int .u64)), (8, .dat (.int .u64)), (9, .dat (.int .u64)), (10, .dat (.int .u64)), (14, .dat (.int .u64)), (15, .dat (.int .u64)), (16, .dat (.int .u64)), (17, .dat (.int .u64)), (18, .dat (.int .u64))], []⟩), (0, ⟨[(2, .dat (.int .u64)), (8, .dat (.int .u64)), (9, .dat (.int .u64)), (10, .dat (.int .u64)), (11, .dat (.int .u64)), (13, .dat (.int .u64)), (14, .dat (.int .u64)), (15, .dat (.int .u64)), (16, .dat (.int .u64))], []⟩)]

noncomputable def sem94 : CSem := sm94

noncomputable def ag85 : List AK := [.val (.agg (.pair (.int .u64) (.pair (.int .u64) .unit))), .val (.int .u64)]
noncomputable def al85 : List Alt := [([.val (.agg (.pair (.int .u64) (.pair (.int .u64) .unit))), .val (.int .u64), .val .bool], [])]
noncomputable def sm85 : CSem := mkSemA ag85 al85 fun x => word_Div x.1 x.2.1
noncomputable def cf85 : Cfg := cf [(94, sem94)] 33 0 []

noncomputable def sem85 : CSem := sm85

noncomputable def sg77 : Sig := ⟨[.val (.agg (.pair (.int .u64) (.pair (.int .u64) .unit))), .val (.int .i64)], [.val .str], []⟩
noncomputable def sm77 : CSem := mkSem sg77 fun x => word_Text x.1 x.2.1
noncomputable def cf77 : Cfg := cf [(83, sem83), (85, sem85)] 66 0 [(2, ⟨[(5, .own (.int .u8) false), (37, .dat (.int .i64)), (38, .dat (.int .i64))], []⟩), (0, ⟨[(1, .dat (.int .i64)), (2, .loc (nameOf 2 0) []), (5, .own (.int .u8) false)], [((nameOf 2 0), (.agg (.pair (.int .u64) (.pair (.int .u64) .unit))))]⟩)]

noncomputable def sem77 : CSem := sm77

noncomputable def sg47 : Sig := ⟨[.val (.agg (.pair (.int .i64) (.pair (.int .u64) (.pair (.int .u64) .unit))))], [.val .str], []⟩
noncomputable def sm47 : CSem := mkSem sg47 fun x => vec_Text x.1
noncomputable def cf47 : Cfg := cf [(13, sem13), (77, sem77), (14, sem14)] 16 0 []

noncomputable def sem47 : CSem := sm47

/-! ### shunter/shunterlaw02.lives -/
noncomputable def law02_lives : Option ((Bool × Unit) × (Unit)) :=
  (vec_Add (8, 0, 255, ()) (8, 0, 1, ())).bind fun r_1 =>
  (vec_AddSat (8, 0, 255, ()) (8, 0, 1, ())).bind fun r_2 =>
  let t18_3 : Bool := decide (r_1.1.2.1 = 0)
  guardR t18_3 (some ()) () fun _ =>
  guardR t18_3 (some (decide (r_2.1.2.1 = 0))) false fun v_4 =>
  let t22_5 : Bool := bif t18_3 then v_4 else false
  guardR t22_5 (some r_1.1.1) (0, 0, 0, ()) fun v_6 =>
  guardR t22_5 (vec_Text v_6) (([], ()), ()) fun r_7 =>
  guardR t22_5 (some (decide (r_7.1.1 = [56, 39, 48]))) false fun v_8 =>
  let t27_9 : Bool := bif t22_5 then v_8 else false
  guardR t27_9 (some r_2.1.1) (0, 0, 0, ()) fun v_10 =>
  guardR t27_9 (vec_Text v_10) (([], ()), ()) fun r_11 =>
  guardR t27_9 (some (decide (r_11.1.1 = [56, 39, 102, 102]))) false fun v_12 =>
  some (((bif t27_9 then v_12 else false), ()), ())

noncomputable def sg16 : Sig := ⟨[], [.val .bool], []⟩
noncomputable def sm16 : CSem := mkSem sg16 fun x => law02_lives
noncomputable def cf16 : Cfg := cf [(27, sem27), (29, sem29), (47, sem47)] 33 0 []

noncomputable def sem16 : CSem := sm16

noncomputable def sg17 : Sig := ⟨[.val (.agg (.pair (.int .i64) (.pair (.int .u64) (.pair (.int .u64) .unit))))], [.own (.own .bool)], []⟩
noncomputable def sm17 : CSem := mkSem sg17 fun x => ref02_Bits x.1
noncomputable def cf17 : Cfg := cf [(50, sem50)] 28 0 [(0, ⟨[(1, .loc (nameOf 1 0) []), (3, .loc (nameOf 3 0) []), (4, .own .bool false), (5, .dat (.int .i64))], [((nameOf 1 0), (.agg (.pair (.int .i64) (.pair (.int .u64) (.pair (.int .u64) .unit))))), ((nameOf 3 0), (.agg (.arr 128 .bool)))]⟩)]

noncomputable def sem17 : CSem := sm17

noncomputable def sg56 : Sig := ⟨[.val (.agg (.arr 128 .bool))], [.val (.int .u64), .val (.int .u64)], []⟩
noncomputable def sm56 : CSem := mkSem sg56 fun x => ref01_Halves x.1
noncomputable def cf56 : Cfg := cf [] 28 0 [(0, ⟨[(1, .loc (nameOf 1 0) []), (4, .dat (.int .u64)), (5, .dat (.int .u64)), (6, .dat (.int .i64))], [((nameOf 1 0), (.agg (.arr 128 .bool)))]⟩)]

noncomputable def sem56 : CSem := sm56

noncomputable def ag18 : List AK := [.val (.slice .bool)]
noncomputable def al18 : List Alt := [([.val (.agg (.pair (.int .i64) (.pair (.int .u64) (.pair (.int .u64) .unit))))], [])]
noncomputable def sm18 : CSem := mkSemA ag18 al18 fun x => ref02_Of x.1
noncomputable def cf18 : Cfg := cf [(56, sem56)] 33 0 [(0, ⟨[(0, .dat (.slice .bool)), (2, .loc (nameOf 2 0) []), (3, .loc (nameOf 3 0) []), (4, .dat (.int .i64))], [((nameOf 2 0), (.agg (.pair (.int .i64) (.pair (.int .u64) (.pair (.int .u64) .unit))))), ((nameOf 3 0), (.agg (.arr 128 .bool)))]⟩)]

noncomputable def sem18 : CSem := sm18

/-! ### shunter/shunterlaw02.VecMakes -/
noncomputable def law02_VecMakes (w_0 : Int) (hi_1 : Int) (lo_2 : Int) : Option ((Bool × Unit) × (Unit)) :=
  (ref02_May (w_0, hi_1, lo_2, ())).bind fun r_1 =>
  (vec_New w_0 hi_1 lo_2).bind fun r_2 =>
  (vec_Cut w_0 (hi_1, lo_2, ())).bind fun r_3 =>
  (vec_May (w_0, hi_1, lo_2, ())).bind fun r_4 =>
  let t38_5 : Bool := !(decide (r_4.1.1 = r_1.1.1))
  guardR (!t38_5) (some (w_0, hi_1, lo_2, ())) (0, 0, 0, ()) fun v_6 =>
  guardR (!t38_5) (vec_Word v_6) (((0, 0, ()), ()), ()) fun r_7 =>
  guardR (!t38_5) (some ()) () fun _ =>
  guardR (!t38_5) (some ()) () fun _ =>
  guardR (!t38_5) (some ()) () fun _ =>
  guardR (!t38_5) (some ()) () fun _ =>
  let t46_9 : Bool := bif t38_5 then true else (!(decide (r_7.1.1.1 = hi_1) && decide (r_7.1.1.2.1 = lo_2)))
  guardR (!t46_9) (vec_Truth true) (((0, 0, 0, ()), ()), ()) fun r_10 =>
  guardR (!t46_9) (some ()) () fun _ =>
  guardR (!t46_9) (some ()) () fun _ =>
  let t51_12 : Bool := bif t46_9 then true else (!(decide (r_10.1.1.1 = 1) && (decide (r_10.1.1.2.1 = 0) && decide (r_10.1.1.2.2.1 = 1))))
  guardR (!t51_12) (vec_Truth false) (((0, 0, 0, ()), ()), ()) fun r_13 =>
  guardR (!t51_12) (some ()) () fun _ =>
  guardR (!t51_12) (some ()) () fun _ =>
  bif (bif t51_12 then true else (!(decide (r_13.1.1.1 = 1) && (decide (r_13.1.1.2.1 = 0) && decide (r_13.1.1.2.2.1 = 0))))) then
    some ((false, ()), ())
  else
  let t58_16 : Bool := decide (w_0 < 1)
  guardR (!t58_16) (some ()) () fun _ =>
  guardR (!t58_16) (some (decide (w_0 > 128))) false fun v_17 =>
  bif (bif t58_16 then true else v_17) then
    let t65_19 : Bool := decide (r_2.1.1.1 = 0) && (decide (r_2.1.1.2.1 = 0) && decide (r_2.1.1.2.2.1 = 0))
    guardR t65_19 (some ()) () fun _ =>
    guardR t65_19 (some (decide (r_2.1.2.1 = 9))) false fun v_20 =>
    let t69_21 : Bool := bif t65_19 then v_20 else false
    guardR t69_21 (some r_3.1.1) (0, 0, 0, ()) fun v_22 =>
    guardR t69_21 (some ()) () fun _ =>
    guardR t69_21 (some ()) () fun _ =>
    let t74_24 : Bool := bif t69_21 then (decide (v_22.1 = 0) && (decide (v_22.2.1 = 0) && decide (v_22.2.2.1 = 0))) else false
    guardR t74_24 (some ()) () fun _ =>
    guardR t74_24 (some (decide (r_3.1.2.1 = 9))) false fun v_25 =>
    let t78_26 : Bool := bif t74_24 then v_25 else false
    guardR t78_26 law02_lives ((false, ()), ()) fun r_27 =>
    some (((bif t78_26 then r_27.1.1 else false), ()), ())
  else
  (ref02_Bits (128, hi_1, lo_2, ())).bind fun r_29 =>
  let t87_30 : Bool := !decide (r_3.1.2.1 = 0)
  guardR (!t87_30) (some r_3.1.1) (0, 0, 0, ()) fun v_31 =>
  guardR (!t87_30) (some ()) () fun _ =>
  guardR (!t87_30) (some ()) () fun _ =>
  guardR (!t87_30) (subL r_29.1.1 0 w_0) [] fun v_32 =>
  bif !t87_30 then
    guardR (!t87_30) (ref02_Of v_32) (((0, 0, 0, ()), ()), ()) fun r_33 =>
    guardR (!t87_30) (some ()) () fun _ =>
    bif (bif t87_30 then true else (!(decide (v_31.1 = r_33.1.1.1) && (decide (v_31.2.1 = r_33.1.1.2.1) && decide (v_31.2.2.1 = r_33.1.1.2.2.1))))) then
      some ((false, ()), ())
    else
    bif !r_1.1.1 then
      let t100_36 : Bool := decide (r_2.1.1.1 = 0) && (decide (r_2.1.1.2.1 = 0) && decide (r_2.1.1.2.2.1 = 0))
      guardR t100_36 (some ()) () fun _ =>
      guardR t100_36 (some (decide (r_2.1.2.1 = 7))) false fun v_37 =>
      let t104_38 : Bool := bif t100_36 then v_37 else false
      guardR t104_38 law02_lives ((false, ()), ()) fun r_39 =>
      some (((bif t104_38 then r_39.1.1 else false), ()), ())
    else
    let t110_41 : Bool := decide (r_2.1.1.1 = w_0) && (decide (r_2.1.1.2.1 = hi_1) && decide (r_2.1.1.2.2.1 = lo_2))
    guardR t110_41 (some ()) () fun _ =>
    guardR t110_41 (some (decide (r_2.1.2.1 = 0))) false fun v_42 =>
    let t114_43 : Bool := bif t110_41 then v_42 else false
    guardR t114_43 (some r_3.1.1) (0, 0, 0, ()) fun v_44 =>
    guardR t114_43 (some r_2.1.1) (0, 0, 0, ()) fun v_45 =>
    guardR t114_43 (some ()) () fun _ =>
    let t119_47 : Bool := bif t114_43 then (decide (v_44.1 = v_45.1) && (decide (v_44.2.1 = v_45.2.1) && decide (v_44.2.2.1 = v_45.2.2.1))) else false
    guardR t119_47 law02_lives ((false, ()), ()) fun r_48 =>
    some (((bif t119_47 then r_48.1.1 else false), ()), ())
  else
  bif !t87_30 then
    none
  else
  bif !t87_30 then
    none
  else
  (bif t87_30 then some true else none).bind fun v_50 =>
  bif v_50 then
    some ((false, ()), ())
  else
  bif !r_1.1.1 then
    let t100_51 : Bool := decide (r_2.1.1.1 = 0) && (decide (r_2.1.1.2.1 = 0) && decide (r_2.1.1.2.2.1 = 0))
    guardR t100_51 (some ()) () fun _ =>
    guardR t100_51 (some (decide (r_2.1.2.1 = 7))) false fun v_52 =>
    let t104_53 : Bool := bif t100_51 then v_52 else false
    guardR t104_53 law02_lives ((false, ()), ()) fun r_54 =>
    some (((bif t104_53 then r_54.1.1 else false), ()), ())
  else
  let t110_56 : Bool := decide (r_2.1.1.1 = w_0) && (decide (r_2.1.1.2.1 = hi_1) && decide (r_2.1.1.2.2.1 = lo_2))
  guardR t110_56 (some ()) () fun _ =>
  guardR t110_56 (some (decide (r_2.1.2.1 = 0))) false fun v_57 =>
  let t114_58 : Bool := bif t110_56 then v_57 else false
  guardR t114_58 (some r_3.1.1) (0, 0, 0, ()) fun v_59 =>
  guardR t114_58 (some r_2.1.1) (0, 0, 0, ()) fun v_60 =>
  guardR t114_58 (some ()) () fun _ =>
  let t119_62 : Bool := bif t114_58 then (decide (v_59.1 = v_60.1) && (decide (v_59.2.1 = v_60.2.1) && decide (v_59.2.2.1 = v_60.2.2.1))) else false
  guardR t119_62 law02_lives ((false, ()), ()) fun r_63 =>
  some (((bif t119_62 then r_63.1.1 else false), ()), ())

noncomputable def sg3 : Sig := ⟨[.val (.int .i64), .val (.int .u64), .val (.int .u64)], [.val .bool], []⟩
noncomputable def sm3 : CSem := mkSem sg3 fun x => law02_VecMakes x.1 x.2.1 x.2.2.1
noncomputable def cf3 : Cfg := cf [(10, sem10), (11, sem11), (12, sem12), (13, sem13), (14, sem14), (15, sem15), (16, sem16), (17, sem17), (18, sem18)] 123 0 []

noncomputable def sem3 : CSem := sm3

noncomputable def ag19 : List AK := [.val (.agg (.pair (.int .i64) (.pair (.int .u64) (.pair (.int .u64) .unit)))), .val (.int .i64), .val (.int .i64)]
noncomputable def al19 : List Alt := [([.val (.agg (.pair (.int .i64) (.pair (.int .u64) (.pair (.int .u64) .unit)))), .val (.int .i64)], [])]
noncomputable def sm19 : CSem := mkSemA ag19 al19 fun x => vec_Slice x.1 x.2.1 x.2.2.1
noncomputable def cf19 : Cfg := cf [(13, sem13), (14, sem14), (57, sem57), (12, sem12)] 39 0 []

noncomputable def sem19 : CSem := sm19

noncomputable def ag20 : List AK := [.val (.agg (.pair (.int .i64) (.pair (.int .u64) (.pair (.int .u64) .unit)))), .val (.int .i64), .val (.int .i64)]
noncomputable def al20 : List Alt := [([.val (.agg (.pair (.int .i64) (.pair (.int .u64) (.pair (.int .u64) .unit)))), .val (.int .i64)], [])]
noncomputable def sm20 : CSem := mkSemA ag20 al20 fun x => ref02_Slice x.1 x.2.1 x.2.2.1
noncomputable def cf20 : Cfg := cf [(10, sem10), (17, sem17), (18, sem18)] 33 0 []

noncomputable def sem20 : CSem := sm20

noncomputable def ag21 : List AK := [.val (.agg (.pair (.int .i64) (.pair (.int .u64) (.pair (.int .u64) .unit)))), .val (.agg (.pair (.int .i64) (.pair (.int .u64) (.pair (.int .u64) .unit))))]
noncomputable def al21 : List Alt := [([.val (.agg (.pair (.int .i64) (.pair (.int .u64) (.pair (.int .u64) .unit)))), .val (.int .i64)], [])]
noncomputable def sm21 : CSem := mkSemA ag21 al21 fun x => vec_Cat x.1 x.2.1
noncomputable def cf21 : Cfg := cf [(13, sem13), (14, sem14), (59, sem59), (58, sem58), (52, sem52)] 38 0 []

noncomputable def sem21 : CSem := sm21

noncomputable def ag22 : List AK := [.val (.agg (.pair (.int .i64) (.pair (.int .u64) (.pair (.int .u64) .unit)))), .val (.agg (.pair (.int .i64) (.pair (.int .u64) (.pair (.int .u64) .unit))))]
noncomputable def al22 : List Alt := [([.val (.agg (.pair (.int .i64) (.pair (.int .u64) (.pair (.int .u64) .unit)))), .val (.int .i64)], [])]
noncomputable def sm22 : CSem := mkSemA ag22 al22 fun x => ref02_Cat x.1 x.2.1
noncomputable def cf22 : Cfg := cf [(10, sem10), (17, sem17), (18, sem18)] 33 0 []

noncomputable def sem22 : CSem := sm22

/-! ### shunter/shunterlaw02.VecParts -/
noncomputable def law02_VecParts (a_0 : Int × Int × Int × Unit) (b_1 : Int × Int × Int × Unit) (at_2 : List Int) : Option ((Bool × Unit) × (Unit)) :=
  (Option.map (fun _ => 0) (ckI 0 2)).bind fun v_1 =>
  (rdI at_2 v_1).bind fun v_2 =>
  (Option.map (fun _ => 1) (ckI 1 2)).bind fun v_3 =>
  (rdI at_2 v_3).bind fun v_4 =>
  (vec_Slice (a_0.1, a_0.2.1, a_0.2.2.1, ()) v_2 v_4).bind fun r_5 =>
  (Option.map (fun _ => 0) (ckI 0 2)).bind fun v_6 =>
  (rdI at_2 v_6).bind fun v_7 =>
  (Option.map (fun _ => 1) (ckI 1 2)).bind fun v_8 =>
  (rdI at_2 v_8).bind fun v_9 =>
  (ref02_Slice (a_0.1, a_0.2.1, a_0.2.2.1, ()) v_7 v_9).bind fun r_10 =>
  (vec_Cat (a_0.1, a_0.2.1, a_0.2.2.1, ()) (b_1.1, b_1.2.1, b_1.2.2.1, ())).bind fun r_11 =>
  (ref02_Cat (a_0.1, a_0.2.1, a_0.2.2.1, ()) (b_1.1, b_1.2.1, b_1.2.2.1, ())).bind fun r_12 =>
  let t47_13 : Bool := decide (r_5.1.1.1 = r_10.1.1.1) && (decide (r_5.1.1.2.1 = r_10.1.1.2.1) && decide (r_5.1.1.2.2.1 = r_10.1.1.2.2.1))
  guardR t47_13 (some ()) () fun _ =>
  guardR t47_13 (some ()) () fun _ =>
  guardR t47_13 (some (decide (r_5.1.2.1 = r_10.1.2.1))) false fun v_14 =>
  let t52_15 : Bool := bif t47_13 then v_14 else false
  guardR t52_15 (some r_11.1.1) (0, 0, 0, ()) fun v_16 =>
  guardR t52_15 (some r_12.1.1) (0, 0, 0, ()) fun v_17 =>
  guardR t52_15 (some ()) () fun _ =>
  let t57_19 : Bool := bif t52_15 then (decide (v_16.1 = v_17.1) && (decide (v_16.2.1 = v_17.2.1) && decide (v_16.2.2.1 = v_17.2.2.1))) else false
  guardR t57_19 (some ()) () fun _ =>
  guardR t57_19 (some ()) () fun _ =>
  guardR t57_19 (some (decide (r_11.1.2.1 = r_12.1.2.1))) false fun v_20 =>
  let t62_21 : Bool := bif t57_19 then v_20 else false
  guardR t62_21 law02_lives ((false, ()), ()) fun r_22 =>
  some (((bif t62_21 then r_22.1.1 else false), ()), ())

noncomputable def sg4 : Sig := ⟨[.val (.agg (.pair (.int .i64) (.pair (.int .u64) (.pair (.int .u64) .unit)))), .val (.agg (.pair (.int .i64) (.pair (.int .u64) (.pair (.int .u64) .unit)))), .val (.agg (.arr 2 (.int .i64)))], [.val .bool], []⟩
noncomputable def sm4 : CSem := mkSem sg4 fun x => law02_VecParts x.1 x.2.1 x.2.2.1
noncomputable def cf4 : Cfg := cf [(19, sem19), (20, sem20), (21, sem21), (22, sem22), (16, sem16)] 66 0 []

noncomputable def sem4 : CSem := sm4

noncomputable def ag31 : List AK := [.val (.agg (.pair (.int .i64) (.pair (.int .u64) (.pair (.int .u64) .unit)))), .val (.agg (.pair (.int .i64) (.pair (.int .u64) (.pair (.int .u64) .unit))))]
noncomputable def al31 : List Alt := [([.val (.agg (.pair (.int .i64) (.pair (.int .u64) (.pair (.int .u64) .unit)))), .val (.int .i64)], [])]
noncomputable def sm31 : CSem := mkSemA ag31 al31 fun x => vec_And x.1 x.2.1
noncomputable def cf31 : Cfg := cf [(60, sem60)] 11 0 []

noncomputable def sem31 : CSem := sm31

noncomputable def sg23 : Sig := ⟨[.val (.agg (.pair (.int .i64) (.pair (.int .u64) (.pair (.int .u64) .unit)))), .val (.agg (.pair (.int .i64) (.pair (.int .u64) (.pair (.int .u64) .unit)))), .val (.agg (.pair (.int .i64) (.pair (.int .u64) (.pair (.int .u64) .unit))))], [.val .bool], []⟩
noncomputable def sm23 : CSem := mkSem sg23 fun x => vec_Meets x.1 x.2.1 x.2.2.1
noncomputable def cf23 : Cfg := cf [(31, sem31)] 34 0 []

noncomputable def sem23 : CSem := sm23

noncomputable def sg24 : Sig := ⟨[.val (.agg (.pair (.int .i64) (.pair (.int .u64) (.pair (.int .u64) .unit)))), .val (.agg (.pair (.int .i64) (.pair (.int .u64) (.pair (.int .u64) .unit)))), .val (.agg (.pair (.int .i64) (.pair (.int .u64) (.pair (.int .u64) .unit))))], [.val .bool], []⟩
noncomputable def sm24 : CSem := mkSem sg24 fun x => ref02_Meets x.1 x.2.1 x.2.2.1
noncomputable def cf24 : Cfg := cf [(10, sem10), (17, sem17)] 65 0 [(0, ⟨[(7, .own .bool false), (8, .own .bool false), (9, .own .bool false), (10, .dat (.int .i64))], []⟩)]

noncomputable def sem24 : CSem := sm24

noncomputable def sg71 : Sig := ⟨[.val (.int .i64)], [.val .bool], []⟩
noncomputable def sm71 : CSem := mkSem sg71 fun x => vec_Less_1 x.1
noncomputable def cf71 : Cfg := cf [] 5 0 []

noncomputable def sem71 : CSem := sm71

noncomputable def sg70 : Sig := ⟨[.val (.int .i64)], [.val .bool], []⟩
noncomputable def sm70 : CSem := mkSem sg70 fun x => vec_Eq_1 x.1
noncomputable def cf70 : Cfg := cf [] 5 0 []

noncomputable def sem70 : CSem := sm70

noncomputable def ag69 : List AK := [.val (.agg (.pair (.int .i64) (.pair (.int .u64) (.pair (.int .u64) .unit)))), .val (.agg (.pair (.int .i64) (.pair (.int .u64) (.pair (.int .u64) .unit)))), .fnc 71]
noncomputable def al69 : List Alt := [([.val (.agg (.pair (.int .i64) (.pair (.int .u64) (.pair (.int .u64) .unit)))), .val (.int .i64)], [])]
noncomputable def sm69 : CSem := mkSemA ag69 al69 fun x => vec_told_44b x.1 x.2.1
noncomputable def cf69 : Cfg := cf [(60, sem60), (14, sem14), (66, sem66), (71, sem71), (15, sem15)] 28 0 []

noncomputable def ag69a : List AK := [.val (.agg (.pair (.int .i64) (.pair (.int .u64) (.pair (.int .u64) .unit)))), .val (.agg (.pair (.int .i64) (.pair (.int .u64) (.pair (.int .u64) .unit)))), .fnc 70]
noncomputable def al69a : List Alt := [([.val (.agg (.pair (.int .i64) (.pair (.int .u64) (.pair (.int .u64) .unit)))), .val (.int .i64)], [])]
noncomputable def sm69a : CSem := mkSemA ag69a al69a fun x => vec_told_91b x.1 x.2.1
noncomputable def cf69a : Cfg := cf [(60, sem60), (14, sem14), (66, sem66), (70, sem70), (15, sem15)] 28 0 []

noncomputable def sem69 : CSem := orSem sm69 (sm69a)

noncomputable def ag35 : List AK := [.val (.agg (.pair (.int .i64) (.pair (.int .u64) (.pair (.int .u64) .unit)))), .val (.agg (.pair (.int .i64) (.pair (.int .u64) (.pair (.int .u64) .unit))))]
noncomputable def al35 : List Alt := [([.val (.agg (.pair (.int .i64) (.pair (.int .u64) (.pair (.int .u64) .unit)))), .val (.int .i64)], [])]
noncomputable def sm35 : CSem := mkSemA ag35 al35 fun x => vec_Less x.1 x.2.1
noncomputable def cf35 : Cfg := cf [(69, sem69)] 11 0 []

noncomputable def sem35 : CSem := sm35

noncomputable def sg25 : Sig := ⟨[.val (.agg (.pair (.int .i64) (.pair (.int .u64) (.pair (.int .u64) .unit)))), .val (.agg (.pair (.int .i64) (.pair (.int .u64) (.pair (.int .u64) .unit)))), .val (.agg (.pair (.int .i64) (.pair (.int .u64) (.pair (.int .u64) .unit))))], [.val .bool], []⟩
noncomputable def sm25 : CSem := mkSem sg25 fun x => vec_Within x.1 x.2.1 x.2.2.1
noncomputable def cf25 : Cfg := cf [(35, sem35)] 39 0 []

noncomputable def sem25 : CSem := sm25

noncomputable def ag36 : List AK := [.val .str, .val (.agg (.pair (.int .i64) (.pair (.int .u64) (.pair (.int .u64) .unit)))), .val (.agg (.pair (.int .i64) (.pair (.int .u64) (.pair (.int .u64) .unit))))]
noncomputable def al36 : List Alt := [([.val (.agg (.pair (.int .i64) (.pair (.int .u64) (.pair (.int .u64) .unit)))), .val (.int .i64)], [])]
noncomputable def sm36 : CSem := mkSemA ag36 al36 fun x => ref02_Two x.1 x.2.1 x.2.2.1
noncomputable def cf36 : Cfg := cf [(10, sem10), (17, sem17), (18, sem18)] 156 0 [(4, ⟨[(0, .dat .str), (6, .loc (nameOf 6 0) []), (10, .dat .bool), (13, .own .bool false), (14, .dat .bool), (20, .dat (.int .i64))], [((nameOf 6 0), (.agg (.pair (.int .i64) (.pair (.int .u64) (.pair (.int .u64) .unit)))))]⟩), (2, ⟨[(0, .dat .str), (6, .loc (nameOf 6 0) []), (8, .own .bool false), (9, .own .bool false), (10, .dat .bool), (13, .own .bool false), (14, .dat .bool), (15, .dat (.int .i64))], [((nameOf 6 0), (.agg (.pair (.int .i64) (.pair (.int .u64) (.pair (.int .u64) .unit)))))]⟩), (0, ⟨[(0, .dat .str), (6, .loc (nameOf 6 0) []), (8, .own .bool false), (9, .own .bool false), (10, .dat .bool), (11, .dat .bool), (12, .dat (.int .i64))], [((nameOf 6 0), (.agg (.pair (.int .i64) (.pair (.int .u64) (.pair (.int .u64) .unit)))))]⟩)]

noncomputable def sem36 : CSem := sm36

noncomputable def sg26 : Sig := ⟨[.val (.agg (.pair (.int .i64) (.pair (.int .u64) (.pair (.int .u64) .unit)))), .val (.agg (.pair (.int .i64) (.pair (.int .u64) (.pair (.int .u64) .unit)))), .val (.agg (.pair (.int .i64) (.pair (.int .u64) (.pair (.int .u64) .unit))))], [.val .bool], []⟩
noncomputable def sm26 : CSem := mkSem sg26 fun x => ref02_Within x.1 x.2.1 x.2.2.1
noncomputable def cf26 : Cfg := cf [(36, sem36)] 39 0 []

noncomputable def sem26 : CSem := sm26

/-! ### shunter/shunterlaw02.VecMeets -/
noncomputable def law02_VecMeets (a_0 : Int × Int × Int × Unit) (b_1 : Int × Int × Int × Unit) (c_2 : Int × Int × Int × Unit) : Option ((Bool × Unit) × (Unit)) :=
  (vec_Meets (a_0.1, a_0.2.1, a_0.2.2.1, ()) (b_1.1, b_1.2.1, b_1.2.2.1, ()) (c_2.1, c_2.2.1, c_2.2.2.1, ())).bind fun r_1 =>
  (ref02_Meets (a_0.1, a_0.2.1, a_0.2.2.1, ()) (b_1.1, b_1.2.1, b_1.2.2.1, ()) (c_2.1, c_2.2.1, c_2.2.2.1, ())).bind fun r_2 =>
  let t15_3 : Bool := decide (r_1.1.1 = r_2.1.1)
  guardR t15_3 (some (a_0.1, a_0.2.1, a_0.2.2.1, ())) (0, 0, 0, ()) fun v_4 =>
  guardR t15_3 (some (b_1.1, b_1.2.1, b_1.2.2.1, ())) (0, 0, 0, ()) fun v_5 =>
  guardR t15_3 (some (c_2.1, c_2.2.1, c_2.2.2.1, ())) (0, 0, 0, ()) fun v_6 =>
  guardR t15_3 (vec_Within v_4 v_5 v_6) ((false, ()), ()) fun r_7 =>
  guardR t15_3 (some (a_0.1, a_0.2.1, a_0.2.2.1, ())) (0, 0, 0, ()) fun v_8 =>
  guardR t15_3 (some (b_1.1, b_1.2.1, b_1.2.2.1, ())) (0, 0, 0, ()) fun v_9 =>
  guardR t15_3 (some (c_2.1, c_2.2.1, c_2.2.2.1, ())) (0, 0, 0, ()) fun v_10 =>
  guardR t15_3 (ref02_Within v_8 v_9 v_10) ((false, ()), ()) fun r_11 =>
  guardR t15_3 (some ()) () fun _ =>
  let t26_13 : Bool := bif t15_3 then (decide (r_7.1.1 = r_11.1.1)) else false
  guardR t26_13 law02_lives ((false, ()), ()) fun r_14 =>
  some (((bif t26_13 then r_14.1.1 else false), ()), ())

noncomputable def sg5 : Sig := ⟨[.val (.agg (.pair (.int .i64) (.pair (.int .u64) (.pair (.int .u64) .unit)))), .val (.agg (.pair (.int .i64) (.pair (.int .u64) (.pair (.int .u64) .unit)))), .val (.agg (.pair (.int .i64) (.pair (.int .u64) (.pair (.int .u64) .unit))))], [.val .bool], []⟩
noncomputable def sm5 : CSem := mkSem sg5 fun x => law02_VecMeets x.1 x.2.1 x.2.2.1
noncomputable def cf5 : Cfg := cf [(23, sem23), (24, sem24), (25, sem25), (26, sem26), (16, sem16)] 30 0 []

noncomputable def sem5 : CSem := sm5

noncomputable def ag28 : List AK := [.val (.agg (.pair (.int .i64) (.pair (.int .u64) (.pair (.int .u64) .unit)))), .val (.agg (.pair (.int .i64) (.pair (.int .u64) (.pair (.int .u64) .unit))))]
noncomputable def al28 : List Alt := [([.val (.agg (.pair (.int .i64) (.pair (.int .u64) (.pair (.int .u64) .unit)))), .val (.int .i64)], [])]
noncomputable def sm28 : CSem := mkSemA ag28 al28 fun x => vec_Sub x.1 x.2.1
noncomputable def cf28 : Cfg := cf [(60, sem60)] 11 0 []

noncomputable def sem28 : CSem := sm28

noncomputable def ag30 : List AK := [.val (.agg (.pair (.int .i64) (.pair (.int .u64) (.pair (.int .u64) .unit)))), .val (.agg (.pair (.int .i64) (.pair (.int .u64) (.pair (.int .u64) .unit))))]
noncomputable def al30 : List Alt := [([.val (.agg (.pair (.int .i64) (.pair (.int .u64) (.pair (.int .u64) .unit)))), .val (.int .i64)], [])]
noncomputable def sm30 : CSem := mkSemA ag30 al30 fun x => vec_SubSat x.1 x.2.1
noncomputable def cf30 : Cfg := cf [(60, sem60)] 11 0 []

noncomputable def sem30 : CSem := sm30

noncomputable def ag32 : List AK := [.val (.agg (.pair (.int .i64) (.pair (.int .u64) (.pair (.int .u64) .unit)))), .val (.agg (.pair (.int .i64) (.pair (.int .u64) (.pair (.int .u64) .unit))))]
noncomputable def al32 : List Alt := [([.val (.agg (.pair (.int .i64) (.pair (.int .u64) (.pair (.int .u64) .unit)))), .val (.int .i64)], [])]
noncomputable def sm32 : CSem := mkSemA ag32 al32 fun x => vec_Or x.1 x.2.1
noncomputable def cf32 : Cfg := cf [(60, sem60)] 11 0 []

noncomputable def sem32 : CSem := sm32

noncomputable def ag33 : List AK := [.val (.agg (.pair (.int .i64) (.pair (.int .u64) (.pair (.int .u64) .unit)))), .val (.agg (.pair (.int .i64) (.pair (.int .u64) (.pair (.int .u64) .unit))))]
noncomputable def al33 : List Alt := [([.val (.agg (.pair (.int .i64) (.pair (.int .u64) (.pair (.int .u64) .unit)))), .val (.int .i64)], [])]
noncomputable def sm33 : CSem := mkSemA ag33 al33 fun x => vec_Xor x.1 x.2.1
noncomputable def cf33 : Cfg := cf [(60, sem60)] 11 0 []

noncomputable def sem33 : CSem := sm33

noncomputable def ag34 : List AK := [.val (.agg (.pair (.int .i64) (.pair (.int .u64) (.pair (.int .u64) .unit)))), .val (.agg (.pair (.int .i64) (.pair (.int .u64) (.pair (.int .u64) .unit))))]
noncomputable def al34 : List Alt := [([.val (.agg (.pair (.int .i64) (.pair (.int .u64) (.pair (.int .u64) .unit)))), .val (.int .i64)], [])]
noncomputable def sm34 : CSem := mkSemA ag34 al34 fun x => vec_Eq x.1 x.2.1
noncomputable def cf34 : Cfg := cf [(69, sem69)] 11 0 []

noncomputable def sem34 : CSem := sm34

/-! ### shunter/shunterlaw02.VecTwos -/
noncomputable def law02_VecTwos_s0 (names_7_0 : List (List Int)) (i_8_0 : Int) (p2_0_0 : Int × Int × Int × Unit) (p3_0_0 : Int × Int × Int × Unit) (p5_0_0 : List (Int × Int × Int × Unit)) (p6_0_0 : List Int) : Option ((((List (List Int)) × Int × Unit) × ((Int × Int × Int × Unit) × (Int × Int × Int × Unit) × (List (Int × Int × Int × Unit)) × (List Int) × Unit)) ⊕ ((Bool × Unit) × (Unit))) :=
  bif (decide (i_8_0 < 9)) then
    (Option.map (fun _ => i_8_0) (ckI i_8_0 names_7_0.length)).bind fun v_47 =>
    (rdI names_7_0 v_47).bind fun v_48 =>
    (ref02_Two v_48 (p2_0_0.1, p2_0_0.2.1, p2_0_0.2.2.1, ()) (p3_0_0.1, p3_0_0.2.1, p3_0_0.2.2.1, ())).bind fun r_49 =>
    (Option.map (fun _ => i_8_0) (ckI i_8_0 9)).bind fun v_50 =>
    (rdI p5_0_0 v_50).bind fun v_51 =>
    let t102_52 : Bool := !(decide (v_51.1 = r_49.1.1.1) && (decide (v_51.2.1 = r_49.1.1.2.1) && decide (v_51.2.2.1 = r_49.1.1.2.2.1)))
    guardR (!t102_52) (some ()) () fun _ =>
    guardR (!t102_52) (Option.map (fun _ => i_8_0) (ckI i_8_0 9)) 0 fun v_53 =>
    guardR (!t102_52) (rdI p6_0_0 v_53) 0 fun v_54 =>
    guardR (!t102_52) (some ()) () fun _ =>
    guardR (!t102_52) (some (!decide (v_54 = r_49.1.2.1))) false fun v_55 =>
    bif (bif t102_52 then true else v_55) then
      some (.inr ((false, ()), ()))
    else
    some (.inl ((names_7_0, (IntKind.i64.wrap (i_8_0 + 1)), ()), (p2_0_0.1, p2_0_0.2.1, p2_0_0.2.2.1, ()), (p3_0_0.1, p3_0_0.2.1, p3_0_0.2.2.1, ()), p5_0_0, p6_0_0, ()))
  else
  (law02_lives.bind fun r_58 =>
  some ((r_58.1.1, ()), ())).map .inr
noncomputable def law02_VecTwos (a_0 : Int × Int × Int × Unit) (b_1 : Int × Int × Int × Unit) : Option ((Bool × Unit) × (Unit)) :=
  (vec_Add (a_0.1, a_0.2.1, a_0.2.2.1, ()) (b_1.1, b_1.2.1, b_1.2.2.1, ())).bind fun r_1 =>
  (Option.map (fun _ => 0) (ckI 0 9)).bind fun v_2 =>
  (stI (List.replicate 9 (0, 0, 0, ())) v_2 r_1.1.1).bind fun v_3 =>
  (Option.map (fun _ => 0) (ckI 0 9)).bind fun v_4 =>
  (stI (List.replicate 9 0) v_4 r_1.1.2.1).bind fun v_5 =>
  (vec_Sub (a_0.1, a_0.2.1, a_0.2.2.1, ()) (b_1.1, b_1.2.1, b_1.2.2.1, ())).bind fun r_6 =>
  (Option.map (fun _ => 1) (ckI 1 9)).bind fun v_7 =>
  (stI v_3 v_7 r_6.1.1).bind fun v_8 =>
  (Option.map (fun _ => 1) (ckI 1 9)).bind fun v_9 =>
  (stI v_5 v_9 r_6.1.2.1).bind fun v_10 =>
  (vec_AddSat (a_0.1, a_0.2.1, a_0.2.2.1, ()) (b_1.1, b_1.2.1, b_1.2.2.1, ())).bind fun r_11 =>
  (Option.map (fun _ => 2) (ckI 2 9)).bind fun v_12 =>
  (stI v_8 v_12 r_11.1.1).bind fun v_13 =>
  (Option.map (fun _ => 2) (ckI 2 9)).bind fun v_14 =>
  (stI v_10 v_14 r_11.1.2.1).bind fun v_15 =>
  (vec_SubSat (a_0.1, a_0.2.1, a_0.2.2.1, ()) (b_1.1, b_1.2.1, b_1.2.2.1, ())).bind fun r_16 =>
  (Option.map (fun _ => 3) (ckI 3 9)).bind fun v_17 =>
  (stI v_13 v_17 r_16.1.1).bind fun v_18 =>
  (Option.map (fun _ => 3) (ckI 3 9)).bind fun v_19 =>
  (stI v_15 v_19 r_16.1.2.1).bind fun v_20 =>
  (vec_And (a_0.1, a_0.2.1, a_0.2.2.1, ()) (b_1.1, b_1.2.1, b_1.2.2.1, ())).bind fun r_21 =>
  (Option.map (fun _ => 4) (ckI 4 9)).bind fun v_22 =>
  (stI v_18 v_22 r_21.1.1).bind fun v_23 =>
  (Option.map (fun _ => 4) (ckI 4 9)).bind fun v_24 =>
  (stI v_20 v_24 r_21.1.2.1).bind fun v_25 =>
  (vec_Or (a_0.1, a_0.2.1, a_0.2.2.1, ()) (b_1.1, b_1.2.1, b_1.2.2.1, ())).bind fun r_26 =>
  (Option.map (fun _ => 5) (ckI 5 9)).bind fun v_27 =>
  (stI v_23 v_27 r_26.1.1).bind fun v_28 =>
  (Option.map (fun _ => 5) (ckI 5 9)).bind fun v_29 =>
  (stI v_25 v_29 r_26.1.2.1).bind fun v_30 =>
  (vec_Xor (a_0.1, a_0.2.1, a_0.2.2.1, ()) (b_1.1, b_1.2.1, b_1.2.2.1, ())).bind fun r_31 =>
  (Option.map (fun _ => 6) (ckI 6 9)).bind fun v_32 =>
  (stI v_28 v_32 r_31.1.1).bind fun v_33 =>
  (Option.map (fun _ => 6) (ckI 6 9)).bind fun v_34 =>
  (stI v_30 v_34 r_31.1.2.1).bind fun v_35 =>
  (vec_Eq (a_0.1, a_0.2.1, a_0.2.2.1, ()) (b_1.1, b_1.2.1, b_1.2.2.1, ())).bind fun r_36 =>
  (Option.map (fun _ => 7) (ckI 7 9)).bind fun v_37 =>
  (stI v_33 v_37 r_36.1.1).bind fun v_38 =>
  (Option.map (fun _ => 7) (ckI 7 9)).bind fun v_39 =>
  (stI v_35 v_39 r_36.1.2.1).bind fun v_40 =>
  (vec_Less (a_0.1, a_0.2.1, a_0.2.2.1, ()) (b_1.1, b_1.2.1, b_1.2.2.1, ())).bind fun r_41 =>
  (Option.map (fun _ => 8) (ckI 8 9)).bind fun v_42 =>
  (stI v_38 v_42 r_41.1.1).bind fun v_43 =>
  (Option.map (fun _ => 8) (ckI 8 9)).bind fun v_44 =>
  (stI v_40 v_44 r_41.1.2.1).bind fun v_45 =>
  loopR (fun (z : ((List (List Int)) × Int × Unit) × ((Int × Int × Int × Unit) × (Int × Int × Int × Unit) × (List (Int × Int × Int × Unit)) × (List Int) × Unit)) => law02_VecTwos_s0 z.1.1 z.1.2.1 z.2.1 z.2.2.1 z.2.2.2.1 z.2.2.2.2.1) (([[97, 100, 100], [115, 117, 98], [97, 100, 100, 115, 97, 116], [115, 117, 98, 115, 97, 116], [97, 110, 100], [111, 114], [120, 111, 114], [101, 113], [108, 101, 115, 115]], 0, ()), (a_0.1, a_0.2.1, a_0.2.2.1, ()), (b_1.1, b_1.2.1, b_1.2.2.1, ()), v_43, v_45, ())

noncomputable def sg6 : Sig := ⟨[.val (.agg (.pair (.int .i64) (.pair (.int .u64) (.pair (.int .u64) .unit)))), .val (.agg (.pair (.int .i64) (.pair (.int .u64) (.pair (.int .u64) .unit))))], [.val .bool], []⟩
noncomputable def sm6 : CSem := mkSem sg6 fun x => law02_VecTwos x.1 x.2.1
noncomputable def cf6 : Cfg := cf [(27, sem27), (28, sem28), (29, sem29), (30, sem30), (31, sem31), (32, sem32), (33, sem33), (34, sem34), (35, sem35), (36, sem36), (16, sem16)] 111 0 [(0, ⟨[(2, .loc (nameOf 2 0) []), (3, .loc (nameOf 3 0) []), (5, .loc (nameOf 5 0) []), (6, .loc (nameOf 6 0) []), (7, .own .str false), (8, .dat (.int .i64))], [((nameOf 2 0), (.agg (.pair (.int .i64) (.pair (.int .u64) (.pair (.int .u64) .unit))))), ((nameOf 3 0), (.agg (.pair (.int .i64) (.pair (.int .u64) (.pair (.int .u64) .unit))))), ((nameOf 5 0), (.agg (.arr 9 (.agg (.pair (.int .i64) (.pair (.int .u64) (.pair (.int .u64) .unit))))))), ((nameOf 6 0), (.agg (.arr 9 (.int .i64))))]⟩)]

noncomputable def sem6 : CSem := sm6

noncomputable def ag37 : List AK := [.val (.agg (.pair (.int .i64) (.pair (.int .u64) (.pair (.int .u64) .unit))))]
noncomputable def al37 : List Alt := [([.val (.agg (.pair (.int .i64) (.pair (.int .u64) (.pair (.int .u64) .unit)))), .val (.int .i64)], [])]
noncomputable def sm37 : CSem := mkSemA ag37 al37 fun x => vec_Not x.1
noncomputable def cf37 : Cfg := cf [(13, sem13), (14, sem14), (72, sem72), (12, sem12)] 16 0 []

noncomputable def sem37 : CSem := sm37

noncomputable def ag38 : List AK := [.val (.agg (.pair (.int .i64) (.pair (.int .u64) (.pair (.int .u64) .unit))))]
noncomputable def al38 : List Alt := [([.val (.agg (.pair (.int .i64) (.pair (.int .u64) (.pair (.int .u64) .unit)))), .val (.int .i64)], [])]
noncomputable def sm38 : CSem := mkSemA ag38 al38 fun x => vec_Neg x.1
noncomputable def cf38 : Cfg := cf [(13, sem13), (14, sem14), (64, sem64), (12, sem12)] 23 0 []

noncomputable def sem38 : CSem := sm38

noncomputable def ag73 : List AK := [.val (.agg (.pair (.int .i64) (.pair (.int .u64) (.pair (.int .u64) .unit)))), .val (.int .i64), .fnc 59]
noncomputable def al73 : List Alt := [([.val (.agg (.pair (.int .i64) (.pair (.int .u64) (.pair (.int .u64) .unit)))), .val (.int .i64)], [])]
noncomputable def sm73 : CSem := mkSemA ag73 al73 fun x => vec_moved_777 x.1 x.2.1
noncomputable def cf73 : Cfg := cf [(13, sem13), (14, sem14), (59, sem59), (12, sem12)] 27 0 []

noncomputable def ag73a : List AK := [.val (.agg (.pair (.int .i64) (.pair (.int .u64) (.pair (.int .u64) .unit)))), .val (.int .i64), .fnc 57]
noncomputable def al73a : List Alt := [([.val (.agg (.pair (.int .i64) (.pair (.int .u64) (.pair (.int .u64) .unit)))), .val (.int .i64)], [])]
noncomputable def sm73a : CSem := mkSemA ag73a al73a fun x => vec_moved_93d x.1 x.2.1
noncomputable def cf73a : Cfg := cf [(13, sem13), (14, sem14), (57, sem57), (12, sem12)] 27 0 []

noncomputable def sem73 : CSem := orSem sm73 (sm73a)

noncomputable def ag39 : List AK := [.val (.agg (.pair (.int .i64) (.pair (.int .u64) (.pair (.int .u64) .unit)))), .val (.int .i64)]
noncomputable def al39 : List Alt := [([.val (.agg (.pair (.int .i64) (.pair (.int .u64) (.pair (.int .u64) .unit)))), .val (.int .i64)], [])]
noncomputable def sm39 : CSem := mkSemA ag39 al39 fun x => vec_Shl x.1 x.2.1
noncomputable def cf39 : Cfg := cf [(73, sem73)] 11 0 []

noncomputable def sem39 : CSem := sm39

noncomputable def ag40 : List AK := [.val (.agg (.pair (.int .i64) (.pair (.int .u64) (.pair (.int .u64) .unit)))), .val (.int .i64)]
noncomputable def al40 : List Alt := [([.val (.agg (.pair (.int .i64) (.pair (.int .u64) (.pair (.int .u64) .unit)))), .val (.int .i64)], [])]
noncomputable def sm40 : CSem := mkSemA ag40 al40 fun x => vec_Shr x.1 x.2.1
noncomputable def cf40 : Cfg := cf [(73, sem73)] 11 0 []

noncomputable def sem40 : CSem := sm40

noncomputable def ag41 : List AK := [.val (.agg (.pair (.int .i64) (.pair (.int .u64) (.pair (.int .u64) .unit)))), .val (.int .i64)]
noncomputable def al41 : List Alt := [([.val (.agg (.pair (.int .i64) (.pair (.int .u64) (.pair (.int .u64) .unit)))), .val (.int .i64)], [])]
noncomputable def sm41 : CSem := mkSemA ag41 al41 fun x => vec_Cast x.1 x.2.1
noncomputable def cf41 : Cfg := cf [(13, sem13), (14, sem14), (12, sem12)] 16 0 []

noncomputable def sem41 : CSem := sm41

noncomputable def ag42 : List AK := [.val .str, .val (.agg (.pair (.int .i64) (.pair (.int .u64) (.pair (.int .u64) .unit)))), .val (.int .i64)]
noncomputable def al42 : List Alt := [([.val (.agg (.pair (.int .i64) (.pair (.int .u64) (.pair (.int .u64) .unit)))), .val (.int .i64)], [])]
noncomputable def sm42 : CSem := mkSemA ag42 al42 fun x => ref02_One x.1 x.2.1 x.2.2.1
noncomputable def cf42 : Cfg := cf [(10, sem10), (17, sem17), (18, sem18)] 119 0 [(0, ⟨[(0, .dat .str), (2, .dat (.int .i64)), (6, .loc (nameOf 6 0) []), (8, .own .bool false), (9, .dat (.int .i64)), (10, .own .bool false), (11, .dat .bool), (12, .dat (.int .i64))], [((nameOf 6 0), (.agg (.pair (.int .i64) (.pair (.int .u64) (.pair (.int .u64) .unit)))))]⟩)]

noncomputable def sem42 : CSem := sm42

noncomputable def ag43 : List AK := [.val (.int .i64), .val (.int .i64)]
noncomputable def al43 : List Alt := [([.val (.agg (.pair (.int .i64) (.pair (.int .u64) (.pair (.int .u64) .unit)))), .val (.int .i64)], [])]
noncomputable def sm43 : CSem := mkSemA ag43 al43 fun x => vec_Prefix x.1 x.2.1
noncomputable def cf43 : Cfg := cf [(51, sem51), (54, sem54), (59, sem59), (12, sem12)] 30 0 []

noncomputable def sem43 : CSem := sm43

noncomputable def ag44 : List AK := [.val (.int .i64), .val (.int .i64)]
noncomputable def al44 : List Alt := [([.val (.agg (.pair (.int .i64) (.pair (.int .u64) (.pair (.int .u64) .unit)))), .val (.int .i64)], [])]
noncomputable def sm44 : CSem := mkSemA ag44 al44 fun x => ref02_Prefix x.1 x.2.1
noncomputable def cf44 : Cfg := cf [(18, sem18)] 38 0 [(0, ⟨[(0, .dat (.int .i64)), (1, .dat (.int .i64)), (4, .loc (nameOf 4 0) []), (6, .own .bool false), (7, .dat (.int .i64))], [((nameOf 4 0), (.agg (.pair (.int .i64) (.pair (.int .u64) (.pair (.int .u64) .unit)))))]⟩)]

noncomputable def sem44 : CSem := sm44

/-! ### shunter/shunterlaw02.VecOnes -/
noncomputable def law02_VecOnes_s0 (n_1_0 : Int) (names_7_0 : List (List Int)) (i_8_0 : Int) (p2_0_0 : Int × Int × Int × Unit) (p5_0_0 : List (Int × Int × Int × Unit)) (p6_0_0 : List Int) : Option (((Int × (List (List Int)) × Int × Unit) × ((Int × Int × Int × Unit) × (List (Int × Int × Int × Unit)) × (List Int) × Unit)) ⊕ ((Bool × Unit) × (Unit))) :=
  bif (decide (i_8_0 < 5)) then
    (Option.map (fun _ => i_8_0) (ckI i_8_0 names_7_0.length)).bind fun v_27 =>
    (rdI names_7_0 v_27).bind fun v_28 =>
    (ref02_One v_28 (p2_0_0.1, p2_0_0.2.1, p2_0_0.2.2.1, ()) n_1_0).bind fun r_29 =>
    (Option.map (fun _ => i_8_0) (ckI i_8_0 5)).bind fun v_30 =>
    (rdI p5_0_0 v_30).bind fun v_31 =>
    let t72_32 : Bool := !(decide (v_31.1 = r_29.1.1.1) && (decide (v_31.2.1 = r_29.1.1.2.1) && decide (v_31.2.2.1 = r_29.1.1.2.2.1)))
    guardR (!t72_32) (some ()) () fun _ =>
    guardR (!t72_32) (Option.map (fun _ => i_8_0) (ckI i_8_0 5)) 0 fun v_33 =>
    guardR (!t72_32) (rdI p6_0_0 v_33) 0 fun v_34 =>
    guardR (!t72_32) (some ()) () fun _ =>
    guardR (!t72_32) (some (!decide (v_34 = r_29.1.2.1))) false fun v_35 =>
    bif (bif t72_32 then true else v_35) then
      some (.inr ((false, ()), ()))
    else
    some (.inl ((n_1_0, names_7_0, (IntKind.i64.wrap (i_8_0 + 1)), ()), (p2_0_0.1, p2_0_0.2.1, p2_0_0.2.2.1, ()), p5_0_0, p6_0_0, ()))
  else
  ((vec_Prefix p2_0_0.1 n_1_0).bind fun r_38 =>
  (ref02_Prefix p2_0_0.1 n_1_0).bind fun r_39 =>
  let t96_40 : Bool := decide (r_38.1.1.1 = r_39.1.1.1) && (decide (r_38.1.1.2.1 = r_39.1.1.2.1) && decide (r_38.1.1.2.2.1 = r_39.1.1.2.2.1))
  guardR t96_40 (some ()) () fun _ =>
  guardR t96_40 (some ()) () fun _ =>
  guardR t96_40 (some (decide (r_38.1.2.1 = r_39.1.2.1))) false fun v_41 =>
  let t101_42 : Bool := bif t96_40 then v_41 else false
  guardR t101_42 law02_lives ((false, ()), ()) fun r_43 =>
  some (((bif t101_42 then r_43.1.1 else false), ()), ())).map .inr
noncomputable def law02_VecOnes (a_0 : Int × Int × Int × Unit) (n_1 : Int) : Option ((Bool × Unit) × (Unit)) :=
  (vec_Not (a_0.1, a_0.2.1, a_0.2.2.1, ())).bind fun r_1 =>
  (Option.map (fun _ => 0) (ckI 0 5)).bind fun v_2 =>
  (stI (List.replicate 5 (0, 0, 0, ())) v_2 r_1.1.1).bind fun v_3 =>
  (Option.map (fun _ => 0) (ckI 0 5)).bind fun v_4 =>
  (stI (List.replicate 5 0) v_4 r_1.1.2.1).bind fun v_5 =>
  (vec_Neg (a_0.1, a_0.2.1, a_0.2.2.1, ())).bind fun r_6 =>
  (Option.map (fun _ => 1) (ckI 1 5)).bind fun v_7 =>
  (stI v_3 v_7 r_6.1.1).bind fun v_8 =>
  (Option.map (fun _ => 1) (ckI 1 5)).bind fun v_9 =>
  (stI v_5 v_9 r_6.1.2.1).bind fun v_10 =>
  (vec_Shl (a_0.1, a_0.2.1, a_0.2.2.1, ()) n_1).bind fun r_11 =>
  (Option.map (fun _ => 2) (ckI 2 5)).bind fun v_12 =>
  (stI v_8 v_12 r_11.1.1).bind fun v_13 =>
  (Option.map (fun _ => 2) (ckI 2 5)).bind fun v_14 =>
  (stI v_10 v_14 r_11.1.2.1).bind fun v_15 =>
  (vec_Shr (a_0.1, a_0.2.1, a_0.2.2.1, ()) n_1).bind fun r_16 =>
  (Option.map (fun _ => 3) (ckI 3 5)).bind fun v_17 =>
  (stI v_13 v_17 r_16.1.1).bind fun v_18 =>
  (Option.map (fun _ => 3) (ckI 3 5)).bind fun v_19 =>
  (stI v_15 v_19 r_16.1.2.1).bind fun v_20 =>
  (vec_Cast (a_0.1, a_0.2.1, a_0.2.2.1, ()) n_1).bind fun r_21 =>
  (Option.map (fun _ => 4) (ckI 4 5)).bind fun v_22 =>
  (stI v_18 v_22 r_21.1.1).bind fun v_23 =>
  (Option.map (fun _ => 4) (ckI 4 5)).bind fun v_24 =>
  (stI v_20 v_24 r_21.1.2.1).bind fun v_25 =>
  loopR (fun (z : (Int × (List (List Int)) × Int × Unit) × ((Int × Int × Int × Unit) × (List (Int × Int × Int × Unit)) × (List Int) × Unit)) => law02_VecOnes_s0 z.1.1 z.1.2.1 z.1.2.2.1 z.2.1 z.2.2.1 z.2.2.2.1) ((n_1, [[110, 111, 116], [110, 101, 103], [115, 104, 108], [115, 104, 114], [99, 97, 115, 116]], 0, ()), (a_0.1, a_0.2.1, a_0.2.2.1, ()), v_23, v_25, ())

noncomputable def sg7 : Sig := ⟨[.val (.agg (.pair (.int .i64) (.pair (.int .u64) (.pair (.int .u64) .unit)))), .val (.int .i64)], [.val .bool], []⟩
noncomputable def sm7 : CSem := mkSem sg7 fun x => law02_VecOnes x.1 x.2.1
noncomputable def cf7 : Cfg := cf [(37, sem37), (38, sem38), (39, sem39), (40, sem40), (41, sem41), (42, sem42), (43, sem43), (44, sem44), (16, sem16)] 105 0 [(0, ⟨[(1, .dat (.int .i64)), (2, .loc (nameOf 2 0) []), (5, .loc (nameOf 5 0) []), (6, .loc (nameOf 6 0) []), (7, .own .str false), (8, .dat (.int .i64))], [((nameOf 2 0), (.agg (.pair (.int .i64) (.pair (.int .u64) (.pair (.int .u64) .unit))))), ((nameOf 5 0), (.agg (.arr 5 (.agg (.pair (.int .i64) (.pair (.int .u64) (.pair (.int .u64) .unit))))))), ((nameOf 6 0), (.agg (.arr 5 (.int .i64))))]⟩)]

noncomputable def sem7 : CSem := sm7

noncomputable def sm103 : CSem := indexSem

noncomputable def sem103 : CSem := sm103

noncomputable def sg98 : Sig := ⟨[.val .str, .val (.int .u8)], [.val (.int .i64)], []⟩
noncomputable def sm98 : CSem := mkSem sg98 fun x => internal_stringslite_IndexByte x.1 x.2.1
noncomputable def cf98 : Cfg := cf [(103, sem103)] 8 0 []

noncomputable def sem98 : CSem := sm98

noncomputable def sg93 : Sig := ⟨[.val .str, .val .str], [.val (.int .i64)], []⟩
noncomputable def sm93 : CSem := mkSem sg93 fun x => internal_stringslite_Index x.1 x.2.1
noncomputable def cf93 : Cfg := cf [(98, sem98)] 143 0 []

noncomputable def sem93 : CSem := sm93

noncomputable def sg82 : Sig := ⟨[.val .str, .val .str], [.val .str, .val .str, .val .bool], []⟩
noncomputable def sm82 : CSem := mkSem sg82 fun x => internal_stringslite_Cut x.1 x.2.1
noncomputable def cf82 : Cfg := cf [(93, sem93)] 23 0 []

noncomputable def sem82 : CSem := sm82

noncomputable def sg74 : Sig := ⟨[.val .str, .val .str], [.val .str, .val .str, .val .bool], []⟩
noncomputable def sm74 : CSem := mkSem sg74 fun x => strings_Cut x.1 x.2.1
noncomputable def cf74 : Cfg := cf [(82, sem82)] 13 0 []

noncomputable def sem74 : CSem := sm74

noncomputable def sg84 : Sig := ⟨[.val (.int .u8)], [.val (.int .i64)], []⟩
noncomputable def sm84 : CSem := mkSem sg84 fun x => word_digit x.1
noncomputable def cf84 : Cfg := cf [] 35 0 []

noncomputable def sem84 : CSem := sm84

noncomputable def sg95 : Sig := ⟨[.val (.int .u64), .val (.int .u64)], [.val (.int .u64), .val (.int .u64)], []⟩
noncomputable def sm95 : CSem := mkSem sg95 fun x => bits_Mul64 x.1 x.2.1
noncomputable def cf95 : Cfg := cf [] 51 0 []

noncomputable def sem95 : CSem := sm95

noncomputable def ag86 : List AK := [.val (.agg (.pair (.int .u64) (.pair (.int .u64) .unit))), .val (.agg (.pair (.int .u64) (.pair (.int .u64) .unit)))]
noncomputable def al86 : List Alt := [([.val (.agg (.pair (.int .u64) (.pair (.int .u64) .unit)))], [])]
noncomputable def sm86 : CSem := mkSemA ag86 al86 fun x => word_Mul x.1 x.2.1
noncomputable def cf86 : Cfg := cf [(95, sem95)] 30 0 []

noncomputable def sem86 : CSem := sm86

noncomputable def ag75 : List AK := [.val .str, .val (.int .i64)]
noncomputable def al75 : List Alt := [([.val (.agg (.pair (.int .u64) (.pair (.int .u64) .unit))), .val (.int .i64)], [])]
noncomputable def sm75 : CSem := mkSemA ag75 al75 fun x => word_Parse x.1 x.2.1
noncomputable def cf75 : Cfg := cf [(83, sem83), (84, sem84), (72, sem72), (85, sem85), (66, sem66), (86, sem86), (62, sem62)] 74 0 [(1, ⟨[(0, .dat .str), (1, .dat (.int .i64)), (4, .loc (nameOf 4 0) []), (6, .loc (nameOf 6 0) []), (7, .dat .bool), (25, .dat (.int .i64)), (26, .dat (.int .i64))], [((nameOf 4 0), (.agg (.pair (.int .u64) (.pair (.int .u64) .unit)))), ((nameOf 6 0), (.agg (.pair (.int .u64) (.pair (.int .u64) .unit))))]⟩)]

noncomputable def sem75 : CSem := sm75

noncomputable def ag45 : List AK := [.val .str]
noncomputable def al45 : List Alt := [([.val (.agg (.pair (.int .i64) (.pair (.int .u64) (.pair (.int .u64) .unit)))), .val (.int .i64)], [])]
noncomputable def sm45 : CSem := mkSemA ag45 al45 fun x => vec_Parse x.1
noncomputable def cf45 : Cfg := cf [(74, sem74), (75, sem75), (51, sem51), (11, sem11)] 69 0 []

noncomputable def sem45 : CSem := sm45

noncomputable def ag88 : List AK := [.val (.agg (.arr 128 .bool))]
noncomputable def al88 : List Alt := [([.val (.agg (.arr 128 .bool))], [])]
noncomputable def sm88 : CSem := mkSemA ag88 al88 fun x => ref01_Turned x.1
noncomputable def cf88 : Cfg := cf [] 16 0 [(0, ⟨[(1, .loc (nameOf 1 0) []), (2, .loc (nameOf 2 0) []), (3, .loc (nameOf 3 0) []), (4, .dat (.int .i64))], [((nameOf 1 0), (.agg (.arr 128 .bool))), ((nameOf 2 0), (.agg (.arr 128 .bool))), ((nameOf 3 0), (.agg (.arr 128 .bool)))]⟩)]

noncomputable def sem88 : CSem := sm88

noncomputable def ag89 : List AK := [.val (.int .i64)]
noncomputable def al89 : List Alt := [([.val (.agg (.arr 128 .bool))], [])]
noncomputable def sm89 : CSem := mkSemA ag89 al89 fun x => ref01_small x.1
noncomputable def cf89 : Cfg := cf [(50, sem50)] 6 0 []

noncomputable def sem89 : CSem := sm89

noncomputable def ag96 : List AK := [.val (.agg (.arr 128 .bool)), .val (.int .i64)]
noncomputable def al96 : List Alt := [([.val (.agg (.arr 128 .bool))], [])]
noncomputable def sm96 : CSem := mkSemA ag96 al96 fun x => ref01_Moved x.1 x.2.1
noncomputable def cf96 : Cfg := cf [] 37 0 [(0, ⟨[(1, .dat (.int .i64)), (2, .loc (nameOf 2 0) []), (4, .loc (nameOf 4 0) []), (5, .loc (nameOf 5 0) []), (6, .dat (.int .i64))], [((nameOf 2 0), (.agg (.arr 128 .bool))), ((nameOf 4 0), (.agg (.arr 128 .bool))), ((nameOf 5 0), (.agg (.arr 128 .bool)))]⟩)]

noncomputable def sem96 : CSem := sm96

noncomputable def sg90 : Sig := ⟨[.val (.agg (.arr 128 .bool)), .val (.agg (.arr 128 .bool))], [.val .bool], []⟩
noncomputable def sm90 : CSem := mkSem sg90 fun x => ref01_Less x.1 x.2.1
noncomputable def cf90 : Cfg := cf [] 20 0 [(0, ⟨[(2, .loc (nameOf 2 0) []), (3, .loc (nameOf 3 0) []), (5, .dat (.int .i64))], [((nameOf 2 0), (.agg (.arr 128 .bool))), ((nameOf 3 0), (.agg (.arr 128 .bool)))]⟩)]

noncomputable def sem90 : CSem := sm90

noncomputable def ag91 : List AK := [.val (.agg (.arr 128 .bool)), .val (.agg (.arr 128 .bool)), .val .bool]
noncomputable def al91 : List Alt := [([.val (.agg (.arr 128 .bool)), .val .bool], [])]
noncomputable def sm91 : CSem := mkSemA ag91 al91 fun x => ref01_Sum x.1 x.2.1 x.2.2.1
noncomputable def cf91 : Cfg := cf [] 37 0 [(0, ⟨[(2, .dat .bool), (3, .loc (nameOf 3 0) []), (4, .loc (nameOf 4 0) []), (6, .loc (nameOf 6 0) []), (8, .loc (nameOf 8 0) []), (9, .dat (.int .i64))], [((nameOf 3 0), (.agg (.arr 128 .bool))), ((nameOf 4 0), (.agg (.arr 128 .bool))), ((nameOf 6 0), (.agg (.arr 128 .bool))), ((nameOf 8 0), (.agg (.arr 128 .bool)))]⟩)]

noncomputable def sem91 : CSem := sm91

noncomputable def ag97 : List AK := [.val (.agg (.arr 128 .bool)), .val (.agg (.arr 128 .bool))]
noncomputable def al97 : List Alt := [([.val (.agg (.arr 128 .bool)), .val .bool], [])]
noncomputable def sm97 : CSem := mkSemA ag97 al97 fun x => ref01_Minus x.1 x.2.1
noncomputable def cf97 : Cfg := cf [(88, sem88), (91, sem91), (90, sem90)] 19 0 []

noncomputable def sem97 : CSem := sm97

noncomputable def ag87 : List AK := [.val (.agg (.arr 128 .bool)), .val (.agg (.arr 128 .bool))]
noncomputable def al87 : List Alt := [([.val (.agg (.arr 128 .bool)), .val (.agg (.arr 128 .bool))], [])]
noncomputable def sm87 : CSem := mkSemA ag87 al87 fun x => ref01_Part x.1 x.2.1
noncomputable def cf87 : Cfg := cf [(96, sem96), (90, sem90), (97, sem97)] 39 0 [(0, ⟨[(2, .loc (nameOf 2 0) []), (3, .loc (nameOf 3 0) []), (4, .loc (nameOf 4 0) []), (5, .loc (nameOf 5 0) []), (6, .loc (nameOf 6 0) []), (7, .loc (nameOf 7 0) []), (8, .dat (.int .i64))], [((nameOf 2 0), (.agg (.arr 128 .bool))), ((nameOf 3 0), (.agg (.arr 128 .bool))), ((nameOf 4 0), (.agg (.arr 128 .bool))), ((nameOf 5 0), (.agg (.arr 128 .bool))), ((nameOf 6 0), (.agg (.arr 128 .bool))), ((nameOf 7 0), (.agg (.arr 128 .bool)))]⟩)]

noncomputable def sem87 : CSem := sm87

noncomputable def ag92 : List AK := [.val (.agg (.arr 128 .bool)), .val (.agg (.arr 128 .bool))]
noncomputable def al92 : List Alt := [([.val (.agg (.arr 128 .bool))], [])]
noncomputable def sm92 : CSem := mkSemA ag92 al92 fun x => ref01_Product x.1 x.2.1
noncomputable def cf92 : Cfg := cf [(96, sem96), (91, sem91)] 23 0 [(0, ⟨[(2, .loc (nameOf 2 0) []), (3, .loc (nameOf 3 0) []), (4, .loc (nameOf 4 0) []), (5, .loc (nameOf 5 0) []), (6, .dat (.int .i64))], [((nameOf 2 0), (.agg (.arr 128 .bool))), ((nameOf 3 0), (.agg (.arr 128 .bool))), ((nameOf 4 0), (.agg (.arr 128 .bool))), ((nameOf 5 0), (.agg (.arr 128 .bool)))]⟩)]

noncomputable def sem92 : CSem := sm92

noncomputable def ag76 : List AK := [.val .str, .val (.int .i64)]
noncomputable def al76 : List Alt := [([.val (.agg (.arr 128 .bool)), .val (.int .i64)], [])]
noncomputable def sm76 : CSem := mkSemA ag76 al76 fun x => ref01_Parse x.1 x.2.1
noncomputable def cf76 : Cfg := cf [(88, sem88), (89, sem89), (87, sem87), (90, sem90), (92, sem92), (91, sem91)] 85 0 [(2, ⟨[(0, .dat .str), (1, .dat (.int .i64)), (4, .loc (nameOf 4 0) []), (6, .loc (nameOf 6 0) []), (7, .dat .bool), (8, .dat (.int .i64)), (9, .dat (.int .i64)), (10, .dat (.int .i64))], [((nameOf 4 0), (.agg (.arr 128 .bool))), ((nameOf 6 0), (.agg (.arr 128 .bool)))]⟩), (0, ⟨[(0, .dat .str), (1, .dat (.int .i64)), (4, .loc (nameOf 4 0) []), (6, .loc (nameOf 6 0) []), (7, .dat .bool), (8, .dat (.int .i64))], [((nameOf 4 0), (.agg (.arr 128 .bool))), ((nameOf 6 0), (.agg (.arr 128 .bool)))]⟩)]

noncomputable def sem76 : CSem := sm76

noncomputable def ag46 : List AK := [.val .str]
noncomputable def al46 : List Alt := [([.val (.agg (.pair (.int .i64) (.pair (.int .u64) (.pair (.int .u64) .unit)))), .val (.int .i64)], [])]
noncomputable def sm46 : CSem := mkSemA ag46 al46 fun x => ref02_Parse x.1
noncomputable def cf46 : Cfg := cf [(76, sem76), (56, sem56), (49, sem49)] 96 0 [(0, ⟨[(0, .dat .str), (2, .loc (nameOf 2 0) []), (4, .dat (.int .i64))], [((nameOf 2 0), (.agg (.pair (.int .i64) (.pair (.int .u64) (.pair (.int .u64) .unit)))))]⟩)]

noncomputable def sem46 : CSem := sm46

noncomputable def sg78 : Sig := ⟨[.val (.agg (.arr 128 .bool)), .val (.int .i64)], [.val .str], []⟩
noncomputable def sm78 : CSem := mkSem sg78 fun x => ref01_Text x.1 x.2.1
noncomputable def cf78 : Cfg := cf [(49, sem49), (89, sem89), (87, sem87), (56, sem56)] 37 0 [(0, ⟨[(1, .dat (.int .i64)), (2, .loc (nameOf 2 0) []), (5, .dat .str)], [((nameOf 2 0), (.agg (.arr 128 .bool)))]⟩)]

noncomputable def sem78 : CSem := sm78

noncomputable def sg48 : Sig := ⟨[.val (.agg (.pair (.int .i64) (.pair (.int .u64) (.pair (.int .u64) .unit))))], [.val .str], []⟩
noncomputable def sm48 : CSem := mkSem sg48 fun x => ref02_Text x.1
noncomputable def cf48 : Cfg := cf [(10, sem10), (50, sem50), (78, sem78)] 19 0 []

noncomputable def sem48 : CSem := sm48

/-! ### shunter/shunterlaw02.VecTexts -/
noncomputable def law02_VecTexts (a_0 : Int × Int × Int × Unit) (s_1 : List Int) : Option ((Bool × Unit) × (Unit)) :=
  bif (decide ((s_1.length : Int) > 300)) then
    law02_lives.bind fun r_3 =>
    some ((r_3.1.1, ()), ())
  else
  (vec_Parse s_1).bind fun r_4 =>
  (ref02_Parse s_1).bind fun r_5 =>
  (vec_Text (a_0.1, a_0.2.1, a_0.2.2.1, ())).bind fun r_6 =>
  (ref02_Text (a_0.1, a_0.2.1, a_0.2.2.1, ())).bind fun r_7 =>
  let t27_8 : Bool := decide (r_6.1.1 = r_7.1.1)
  guardR t27_8 (some r_4.1.1) (0, 0, 0, ()) fun v_9 =>
  guardR t27_8 (some r_5.1.1) (0, 0, 0, ()) fun v_10 =>
  guardR t27_8 (some ()) () fun _ =>
  let t32_12 : Bool := bif t27_8 then (decide (v_9.1 = v_10.1) && (decide (v_9.2.1 = v_10.2.1) && decide (v_9.2.2.1 = v_10.2.2.1))) else false
  guardR t32_12 (some ()) () fun _ =>
  guardR t32_12 (some ()) () fun _ =>
  guardR t32_12 (some (decide (r_4.1.2.1 = r_5.1.2.1))) false fun v_13 =>
  let t37_14 : Bool := bif t32_12 then v_13 else false
  guardR t37_14 law02_lives ((false, ()), ()) fun r_15 =>
  some (((bif t37_14 then r_15.1.1 else false), ()), ())

noncomputable def sg8 : Sig := ⟨[.val (.agg (.pair (.int .i64) (.pair (.int .u64) (.pair (.int .u64) .unit)))), .val .str], [.val .bool], []⟩
noncomputable def sm8 : CSem := mkSem sg8 fun x => law02_VecTexts x.1 x.2.1
noncomputable def cf8 : Cfg := cf [(16, sem16), (45, sem45), (46, sem46), (47, sem47), (48, sem48)] 41 0 []

noncomputable def sem8 : CSem := sm8

/-! ### shunter/shunterlaw02.VecBack -/
noncomputable def law02_VecBack (a_0 : Int × Int × Int × Unit) (b_1 : Int × Int × Int × Unit) (at_2 : Int) : Option ((Bool × Unit) × (Unit)) :=
  (vec_May (a_0.1, a_0.2.1, a_0.2.2.1, ())).bind fun r_1 =>
  bif !r_1.1.1 then
    (vec_Text (a_0.1, a_0.2.1, a_0.2.2.1, ())).bind fun r_2 =>
    let t33_3 : Bool := decide (r_2.1.1 = [])
    guardR t33_3 law02_lives ((false, ()), ()) fun r_4 =>
    some (((bif t33_3 then r_4.1.1 else false), ()), ())
  else
  (vec_Text (a_0.1, a_0.2.1, a_0.2.2.1, ())).bind fun r_6 =>
  (vec_Parse r_6.1.1).bind fun r_7 =>
  let t45_8 : Bool := !(decide (r_7.1.1.1 = a_0.1) && (decide (r_7.1.1.2.1 = a_0.2.1) && decide (r_7.1.1.2.2.1 = a_0.2.2.1)))
  guardR (!t45_8) (some ()) () fun _ =>
  guardR (!t45_8) (some (!decide (r_7.1.2.1 = 0))) false fun v_9 =>
  let t49_10 : Bool := bif t45_8 then true else v_9
  guardR (!t49_10) (some ()) () fun _ =>
  guardR (!t49_10) (some a_0.2.1) 0 fun v_11 =>
  guardR (!t49_10) (some ()) () fun _ =>
  guardR (!t49_10) (some a_0.2.2.1) 0 fun v_12 =>
  guardR (!t49_10) (ref01_Of v_11 v_12) ((List.replicate 128 false, ()), ()) fun r_13 =>
  guardR (!t49_10) (ref01_Len r_13.1.1) ((0, ()), ()) fun r_14 =>
  guardR (!t49_10) (some ()) () fun _ =>
  guardR (!t49_10) (some a_0.1) 0 fun v_15 =>
  guardR (!t49_10) (some (decide (r_14.1.1 > v_15))) false fun v_16 =>
  bif (bif t49_10 then true else v_16) then
    some ((false, ()), ())
  else
  let t62_18 : Bool := decide (at_2 ≥ 1)
  guardR t62_18 (some ()) () fun _ =>
  guardR t62_18 (some ()) () fun _ =>
  guardR t62_18 (some a_0.1) 0 fun v_19 =>
  guardR t62_18 (some (decide (at_2 < v_19))) false fun v_20 =>
  bif (bif t62_18 then v_20 else false) then
    (vec_Slice (a_0.1, a_0.2.1, a_0.2.2.1, ()) (IntKind.i64.wrap (a_0.1 - 1)) at_2).bind fun r_23 =>
    (vec_Slice (a_0.1, a_0.2.1, a_0.2.2.1, ()) (IntKind.i64.wrap (at_2 - 1)) 0).bind fun r_25 =>
    (vec_Cat r_23.1.1 r_25.1.1).bind fun r_26 =>
    (vec_Shr (a_0.1, a_0.2.1, a_0.2.2.1, ()) at_2).bind fun r_27 =>
    (vec_Cast r_23.1.1 a_0.1).bind fun r_28 =>
    let t105_29 : Bool := !decide (r_23.1.2.1 = 0)
    guardR (!t105_29) (some ()) () fun _ =>
    guardR (!t105_29) (some (!decide (r_25.1.2.1 = 0))) false fun v_30 =>
    let t109_31 : Bool := bif t105_29 then true else v_30
    guardR (!t109_31) (some ()) () fun _ =>
    guardR (!t109_31) (some (!decide (r_26.1.2.1 = 0))) false fun v_32 =>
    let t113_33 : Bool := bif t109_31 then true else v_32
    guardR (!t113_33) (some r_26.1.1) (0, 0, 0, ()) fun v_34 =>
    guardR (!t113_33) (some (a_0.1, a_0.2.1, a_0.2.2.1, ())) (0, 0, 0, ()) fun v_35 =>
    guardR (!t113_33) (some ()) () fun _ =>
    let t118_37 : Bool := bif t113_33 then true else (!(decide (v_34.1 = v_35.1) && (decide (v_34.2.1 = v_35.2.1) && decide (v_34.2.2.1 = v_35.2.2.1))))
    guardR (!t118_37) (some ()) () fun _ =>
    guardR (!t118_37) (some (!decide (r_27.1.2.1 = 0))) false fun v_38 =>
    let t122_39 : Bool := bif t118_37 then true else v_38
    guardR (!t122_39) (some ()) () fun _ =>
    guardR (!t122_39) (some (!decide (r_28.1.2.1 = 0))) false fun v_40 =>
    let t126_41 : Bool := bif t122_39 then true else v_40
    guardR (!t126_41) (some r_27.1.1) (0, 0, 0, ()) fun v_42 =>
    guardR (!t126_41) (some r_28.1.1) (0, 0, 0, ()) fun v_43 =>
    guardR (!t126_41) (some ()) () fun _ =>
    let t131_45 : Bool := bif t126_41 then true else (!(decide (v_42.1 = v_43.1) && (decide (v_42.2.1 = v_43.2.1) && decide (v_42.2.2.1 = v_43.2.2.1))))
    guardR (!t131_45) (some r_23.1.1) (0, 0, 0, ()) fun v_46 =>
    guardR (!t131_45) (vec_May v_46) ((false, ()), ()) fun r_47 =>
    guardR (!t131_45) (some ()) () fun _ =>
    let t136_48 : Bool := bif t131_45 then true else !r_47.1.1
    guardR (!t136_48) (some r_25.1.1) (0, 0, 0, ()) fun v_49 =>
    guardR (!t136_48) (vec_May v_49) ((false, ()), ()) fun r_50 =>
    guardR (!t136_48) (some ()) () fun _ =>
    bif (bif t136_48 then true else !r_50.1.1) then
      some ((false, ()), ())
    else
    (vec_Add (a_0.1, a_0.2.1, a_0.2.2.1, ()) (b_1.1, b_1.2.1, b_1.2.2.1, ())).bind fun r_52 =>
    bif (!decide (r_52.1.2.1 = 0)) then
      (vec_May (b_1.1, b_1.2.1, b_1.2.2.1, ())).bind fun r_55 =>
      let t155_56 : Bool := decide ((decide (r_52.1.2.1 = 1)) = (!r_55.1.1))
      guardR t155_56 law02_lives ((false, ()), ()) fun r_57 =>
      some (((bif t155_56 then r_57.1.1 else false), ()), ())
    else
    (vec_Sub r_52.1.1 (b_1.1, b_1.2.1, b_1.2.2.1, ())).bind fun r_59 =>
    (vec_AddSat (a_0.1, a_0.2.1, a_0.2.2.1, ()) (b_1.1, b_1.2.1, b_1.2.2.1, ())).bind fun r_60 =>
    (vec_Less r_52.1.1 (a_0.1, a_0.2.1, a_0.2.2.1, ())).bind fun r_61 =>
    (vec_Word r_60.1.1).bind fun r_62 =>
    (vec_Word r_52.1.1).bind fun r_63 =>
    let t183_65 : Bool := decide (r_59.1.2.1 = 0)
    guardR t183_65 (some r_59.1.1) (0, 0, 0, ()) fun v_66 =>
    guardR t183_65 (some (a_0.1, a_0.2.1, a_0.2.2.1, ())) (0, 0, 0, ()) fun v_67 =>
    guardR t183_65 (some ()) () fun _ =>
    let t188_69 : Bool := bif t183_65 then (decide (v_66.1 = v_67.1) && (decide (v_66.2.1 = v_67.2.1) && decide (v_66.2.2.1 = v_67.2.2.1))) else false
    guardR t188_69 (some ()) () fun _ =>
    guardR t188_69 (some (decide (r_60.1.2.1 = 0))) false fun v_70 =>
    let t192_71 : Bool := bif t188_69 then v_70 else false
    guardR t192_71 (some ()) () fun _ =>
    guardR t192_71 (some (decide (r_61.1.2.1 = 0))) false fun v_72 =>
    let t196_73 : Bool := bif t192_71 then v_72 else false
    guardR t196_73 (some r_52.1.1) (0, 0, 0, ()) fun v_74 =>
    guardR t196_73 (vec_May v_74) ((false, ()), ()) fun r_75 =>
    let t200_76 : Bool := bif t196_73 then r_75.1.1 else false
    guardR t200_76 (some r_60.1.1) (0, 0, 0, ()) fun v_77 =>
    guardR t200_76 (vec_May v_77) ((false, ()), ()) fun r_78 =>
    let t204_79 : Bool := bif t200_76 then r_78.1.1 else false
    guardR t204_79 (some ()) () fun _ =>
    guardR t204_79 (some ()) () fun _ =>
    guardR t204_79 (some r_61.1.1.2.2.1) 0 fun v_80 =>
    guardR t204_79 (some (decide (v_80 = 0))) false fun v_81 =>
    guardR t204_79 (some ()) () fun _ =>
    let t211_83 : Bool := bif t204_79 then (decide ((decide (r_62.1.1.1 = r_63.1.1.1) && decide (r_62.1.1.2.1 = r_63.1.1.2.1)) = v_81)) else false
    guardR t211_83 law02_lives ((false, ()), ()) fun r_84 =>
    some (((bif t211_83 then r_84.1.1 else false), ()), ())
  else
  (vec_Add (a_0.1, a_0.2.1, a_0.2.2.1, ()) (b_1.1, b_1.2.1, b_1.2.2.1, ())).bind fun r_86 =>
  bif (!decide (r_86.1.2.1 = 0)) then
    (vec_May (b_1.1, b_1.2.1, b_1.2.2.1, ())).bind fun r_89 =>
    let t155_90 : Bool := decide ((decide (r_86.1.2.1 = 1)) = (!r_89.1.1))
    guardR t155_90 law02_lives ((false, ()), ()) fun r_91 =>
    some (((bif t155_90 then r_91.1.1 else false), ()), ())
  else
  (vec_Sub r_86.1.1 (b_1.1, b_1.2.1, b_1.2.2.1, ())).bind fun r_93 =>
  (vec_AddSat (a_0.1, a_0.2.1, a_0.2.2.1, ()) (b_1.1, b_1.2.1, b_1.2.2.1, ())).bind fun r_94 =>
  (vec_Less r_86.1.1 (a_0.1, a_0.2.1, a_0.2.2.1, ())).bind fun r_95 =>
  (vec_Word r_94.1.1).bind fun r_96 =>
  (vec_Word r_86.1.1).bind fun r_97 =>
  let t183_99 : Bool := decide (r_93.1.2.1 = 0)
  guardR t183_99 (some r_93.1.1) (0, 0, 0, ()) fun v_100 =>
  guardR t183_99 (some (a_0.1, a_0.2.1, a_0.2.2.1, ())) (0, 0, 0, ()) fun v_101 =>
  guardR t183_99 (some ()) () fun _ =>
  let t188_103 : Bool := bif t183_99 then (decide (v_100.1 = v_101.1) && (decide (v_100.2.1 = v_101.2.1) && decide (v_100.2.2.1 = v_101.2.2.1))) else false
  guardR t188_103 (some ()) () fun _ =>
  guardR t188_103 (some (decide (r_94.1.2.1 = 0))) false fun v_104 =>
  let t192_105 : Bool := bif t188_103 then v_104 else false
  guardR t192_105 (some ()) () fun _ =>
  guardR t192_105 (some (decide (r_95.1.2.1 = 0))) false fun v_106 =>
  let t196_107 : Bool := bif t192_105 then v_106 else false
  guardR t196_107 (some r_86.1.1) (0, 0, 0, ()) fun v_108 =>
  guardR t196_107 (vec_May v_108) ((false, ()), ()) fun r_109 =>
  let t200_110 : Bool := bif t196_107 then r_109.1.1 else false
  guardR t200_110 (some r_94.1.1) (0, 0, 0, ()) fun v_111 =>
  guardR t200_110 (vec_May v_111) ((false, ()), ()) fun r_112 =>
  let t204_113 : Bool := bif t200_110 then r_112.1.1 else false
  guardR t204_113 (some ()) () fun _ =>
  guardR t204_113 (some ()) () fun _ =>
  guardR t204_113 (some r_95.1.1.2.2.1) 0 fun v_114 =>
  guardR t204_113 (some (decide (v_114 = 0))) false fun v_115 =>
  guardR t204_113 (some ()) () fun _ =>
  let t211_117 : Bool := bif t204_113 then (decide ((decide (r_96.1.1.1 = r_97.1.1.1) && decide (r_96.1.1.2.1 = r_97.1.1.2.1)) = v_115)) else false
  guardR t211_117 law02_lives ((false, ()), ()) fun r_118 =>
  some (((bif t211_117 then r_118.1.1 else false), ()), ())

noncomputable def sg9 : Sig := ⟨[.val (.agg (.pair (.int .i64) (.pair (.int .u64) (.pair (.int .u64) .unit)))), .val (.agg (.pair (.int .i64) (.pair (.int .u64) (.pair (.int .u64) .unit)))), .val (.int .i64)], [.val .bool], []⟩
noncomputable def sm9 : CSem := mkSem sg9 fun x => law02_VecBack x.1 x.2.1 x.2.2.1
noncomputable def cf9 : Cfg := cf [(13, sem13), (47, sem47), (16, sem16), (45, sem45), (50, sem50), (49, sem49), (19, sem19), (21, sem21), (40, sem40), (41, sem41), (27, sem27), (28, sem28), (29, sem29), (35, sem35), (14, sem14)] 215 0 []

noncomputable def sem9 : CSem := sm9

end Go.Proofs.Ytipdifiahmgciaa

namespace Go.Proofs.Ytipdifiahmgciaa
open Go Go.Pv Go.Proofs Go.L
set_option maxRecDepth 100000

theorem r59 (word_Shl : (Int × Int × Unit) → Int → Option (((Int × Int × Unit) × Unit) × (Unit))) (word_Shr : (Int × Int × Unit) → Int → Option (((Int × Int × Unit) × Unit) × (Unit))) (x : ArgT ag59) : runFAM (cf59 word_Shl word_Shr) ag59 al59 (bodyOf Try.f59) [(4, some 31)] x = word_Shl_g word_Shl word_Shr x.1 x.2.1 := by kernel_rfl

theorem r60b (x : ArgT ag60b) : runFAM cf60b ag60b al60b (bodyOf Try.f60) [(6, some 24), (7, none)] x = vec_two_d65 x.1 x.2.1 := by kernel_rfl

theorem r60c (x : ArgT ag60c) : runFAM cf60c ag60c al60c (bodyOf Try.f60) [(6, some 24), (7, none)] x = vec_two_61f x.1 x.2.1 := by kernel_rfl

theorem r60d (x : ArgT ag60d) : runFAM cf60d ag60d al60d (bodyOf Try.f60) [(6, some 24), (7, none)] x = vec_two_c80 x.1 x.2.1 := by kernel_rfl

theorem r60e (x : ArgT ag60e) : runFAM cf60e ag60e al60e (bodyOf Try.f60) [(6, some 24), (7, none)] x = vec_two_bf1 x.1 x.2.1 := by kernel_rfl

theorem r11 (x : ArgT ag11) : runFAM cf11 ag11 al11 (bodyOf Try.f11) [(6, some 24), (7, none)] x = vec_New x.1 x.2.1 x.2.2.1 := by kernel_rfl

theorem r73 (x : ArgT ag73) : runFAM cf73 ag73 al73 (bodyOf Try.f73) [(6, some 24), (7, none)] x = vec_moved_777 x.1 x.2.1 := by kernel_rfl

theorem r87 (x : ArgT ag87) : runFAM cf87 ag87 al87 (bodyOf Try.f87) [(4, some 61), (5, some 61)] x = ref01_Part x.1 x.2.1 := by kernel_rfl

theorem r60 (x : ArgT ag60) : runFAM cf60 ag60 al60 (bodyOf Try.f60) [(6, some 24), (7, none)] x = vec_two_c74 x.1 x.2.1 := by kernel_rfl

theorem r29 (x : ArgT ag29) : runFAM cf29 ag29 al29 (bodyOf Try.f29) [(4, some 24), (5, none)] x = vec_AddSat x.1 x.2.1 := by kernel_rfl

theorem r30 (x : ArgT ag30) : runFAM cf30 ag30 al30 (bodyOf Try.f30) [(4, some 24), (5, none)] x = vec_SubSat x.1 x.2.1 := by kernel_rfl

theorem r43 (x : ArgT ag43) : runFAM cf43 ag43 al43 (bodyOf Try.f43) [(4, some 24), (5, none)] x = vec_Prefix x.1 x.2.1 := by kernel_rfl

theorem r75 (x : ArgT ag75) : runFAM cf75 ag75 al75 (bodyOf Try.f75) [(4, some 31), (5, none)] x = word_Parse x.1 x.2.1 := by kernel_rfl

theorem r22 (x : ArgT ag22) : runFAM cf22 ag22 al22 (bodyOf Try.f22) [(4, some 24), (5, none)] x = ref02_Cat x.1 x.2.1 := by kernel_rfl

theorem r64 (x : ArgT ag64) : runFAM cf64 ag64 al64 (bodyOf Try.f64) [(4, some 31), (5, none)] x = word_Sub x.1 x.2.1 := by kernel_rfl

theorem r62 (x : ArgT ag62) : runFAM cf62 ag62 al62 (bodyOf Try.f62) [(4, some 31), (5, none)] x = word_Add x.1 x.2.1 := by kernel_rfl

theorem r35 (x : ArgT ag35) : runFAM cf35 ag35 al35 (bodyOf Try.f35) [(4, some 24), (5, none)] x = vec_Less x.1 x.2.1 := by kernel_rfl

theorem r41 (x : ArgT ag41) : runFAM cf41 ag41 al41 (bodyOf Try.f41) [(4, some 24), (5, none)] x = vec_Cast x.1 x.2.1 := by kernel_rfl

theorem r12 (x : ArgT ag12) : runFAM cf12 ag12 al12 (bodyOf Try.f12) [(4, some 24), (5, none)] x = vec_Cut x.1 x.2.1 := by kernel_rfl

theorem r27 (x : ArgT ag27) : runFAM cf27 ag27 al27 (bodyOf Try.f27) [(4, some 24), (5, none)] x = vec_Add x.1 x.2.1 := by kernel_rfl

theorem r21 (x : ArgT ag21) : runFAM cf21 ag21 al21 (bodyOf Try.f21) [(4, some 24), (5, none)] x = vec_Cat x.1 x.2.1 := by kernel_rfl

theorem r28 (x : ArgT ag28) : runFAM cf28 ag28 al28 (bodyOf Try.f28) [(4, some 24), (5, none)] x = vec_Sub x.1 x.2.1 := by kernel_rfl

theorem r40 (x : ArgT ag40) : runFAM cf40 ag40 al40 (bodyOf Try.f40) [(4, some 24), (5, none)] x = vec_Shr x.1 x.2.1 := by kernel_rfl

theorem r34 (x : ArgT ag34) : runFAM cf34 ag34 al34 (bodyOf Try.f34) [(4, some 24), (5, none)] x = vec_Eq x.1 x.2.1 := by kernel_rfl

theorem r45 (x : ArgT ag45) : runFAM cf45 ag45 al45 (bodyOf Try.f45) [(2, some 24), (3, none)] x = vec_Parse x.1 := by kernel_rfl

theorem r67 (x : ArgT ag67) : runFAM cf67 ag67 al67 (bodyOf Try.f67) [(4, some 31)] x = vec_SubSat_1 x.1 x.2.1 := by kernel_rfl

theorem r37 (x : ArgT ag37) : runFAM cf37 ag37 al37 (bodyOf Try.f37) [(2, some 24), (3, none)] x = vec_Not x.1 := by kernel_rfl

theorem r96 (x : ArgT ag96) : runFAM cf96 ag96 al96 (bodyOf Try.f96) [(4, some 61)] x = ref01_Moved x.1 x.2.1 := by kernel_rfl

theorem r68 (x : ArgT ag68) : runFAM cf68 ag68 al68 (bodyOf Try.f68) [(4, some 31)] x = word_Xor x.1 x.2.1 := by kernel_rfl

theorem r86 (x : ArgT ag86) : runFAM cf86 ag86 al86 (bodyOf Try.f86) [(4, some 31)] x = word_Mul x.1 x.2.1 := by kernel_rfl

theorem r52 (x : ArgT ag52) : runFAM cf52 ag52 al52 (bodyOf Try.f52) [(4, some 24)] x = vec_row x.1 x.2.1 := by kernel_rfl

theorem r58 (x : ArgT ag58) : runFAM cf58 ag58 al58 (bodyOf Try.f58) [(4, some 31)] x = word_Or x.1 x.2.1 := by kernel_rfl

theorem r24 (x : ArgT sg24.args) : runFM cf24 sg24 (bodyOf Try.f24) [6] x = ref02_Meets x.1 x.2.1 x.2.2.1 := by kernel_rfl

theorem r4 (x : ArgT sg4.args) : runFM cf4 sg4 (bodyOf Try.f4) [6] x = law02_VecParts x.1 x.2.1 x.2.2.1 := by kernel_rfl

theorem r74 (x : ArgT sg74.args) : runFM cf74 sg74 (bodyOf Try.f74) [4, 5, 6] x = strings_Cut x.1 x.2.1 := by kernel_rfl

theorem r89 (x : ArgT ag89) : runFAM cf89 ag89 al89 (bodyOf Try.f89) [(2, some 61)] x = ref01_small x.1 := by kernel_rfl

theorem r9 (x : ArgT sg9.args) : runFM cf9 sg9 (bodyOf Try.f9) [6] x = law02_VecBack x.1 x.2.1 x.2.2.1 := by kernel_rfl

theorem r79 (x : ArgT sg79.args) : runFM cf79 sg79 (bodyOf Try.f79) [2] x = bits_Len64 x.1 := by kernel_rfl

end Go.Proofs.Ytipdifiahmgciaa

namespace Go.Proofs.Ytipdifiahmgciaa
open Go Go.Pv Go.Proofs Go.L
set_option maxRecDepth 100000

theorem r57 (word_Shl : (Int × Int × Unit) → Int → Option (((Int × Int × Unit) × Unit) × (Unit))) (word_Shr : (Int × Int × Unit) → Int → Option (((Int × Int × Unit) × Unit) × (Unit))) (x : ArgT ag57) : runFAM (cf57 word_Shl word_Shr) ag57 al57 (bodyOf Try.f57) [(4, some 31)] x = word_Shr_g word_Shl word_Shr x.1 x.2.1 := by kernel_rfl

theorem r20 (x : ArgT ag20) : runFAM cf20 ag20 al20 (bodyOf Try.f20) [(6, some 24), (7, none)] x = ref02_Slice x.1 x.2.1 x.2.2.1 := by kernel_rfl

theorem r36 (x : ArgT ag36) : runFAM cf36 ag36 al36 (bodyOf Try.f36) [(6, some 24), (7, none)] x = ref02_Two x.1 x.2.1 x.2.2.1 := by kernel_rfl

end Go.Proofs.Ytipdifiahmgciaa

namespace Go.Proofs.Ytipdifiahmgciaa
open Go Go.Pv Go.Proofs Go.L
set_option maxRecDepth 100000

theorem r60a (x : ArgT ag60a) : runFAM cf60a ag60a al60a (bodyOf Try.f60) [(6, some 24), (7, none)] x = vec_two_575 x.1 x.2.1 x.2.2.1 := by kernel_rfl

theorem r69a (x : ArgT ag69a) : runFAM cf69a ag69a al69a (bodyOf Try.f69) [(6, some 24), (7, none)] x = vec_told_91b x.1 x.2.1 := by kernel_rfl

theorem r42 (x : ArgT ag42) : runFAM cf42 ag42 al42 (bodyOf Try.f42) [(6, some 24), (7, none)] x = ref02_One x.1 x.2.1 x.2.2.1 := by kernel_rfl

theorem r31 (x : ArgT ag31) : runFAM cf31 ag31 al31 (bodyOf Try.f31) [(4, some 24), (5, none)] x = vec_And x.1 x.2.1 := by kernel_rfl

theorem r33 (x : ArgT ag33) : runFAM cf33 ag33 al33 (bodyOf Try.f33) [(4, some 24), (5, none)] x = vec_Xor x.1 x.2.1 := by kernel_rfl

theorem r98 (x : ArgT sg98.args) : runFM cf98 sg98 (bodyOf Try.f98) [4] x = internal_stringslite_IndexByte x.1 x.2.1 := by kernel_rfl

theorem r32 (x : ArgT ag32) : runFAM cf32 ag32 al32 (bodyOf Try.f32) [(4, some 24), (5, none)] x = vec_Or x.1 x.2.1 := by kernel_rfl

theorem r93 (x : ArgT sg93.args) : runFM cf93 sg93 (bodyOf Try.f93) [4] x = internal_stringslite_Index x.1 x.2.1 := by kernel_rfl

theorem r92 (x : ArgT ag92) : runFAM cf92 ag92 al92 (bodyOf Try.f92) [(4, some 61)] x = ref01_Product x.1 x.2.1 := by kernel_rfl

theorem r38 (x : ArgT ag38) : runFAM cf38 ag38 al38 (bodyOf Try.f38) [(2, some 24), (3, none)] x = vec_Neg x.1 := by kernel_rfl

theorem r61 (x : ArgT ag61) : runFAM cf61 ag61 al61 (bodyOf Try.f61) [(4, some 31)] x = vec_Add_1 x.1 x.2.1 := by kernel_rfl

theorem r63 (x : ArgT ag63) : runFAM cf63 ag63 al63 (bodyOf Try.f63) [(4, some 31)] x = vec_Sub_1 x.1 x.2.1 := by kernel_rfl

theorem r94 (x : ArgT sg94.args) : runFM cf94 sg94 (bodyOf Try.f94) [6, 7] x = bits_Div64 x.1 x.2.1 x.2.2.1 := by kernel_rfl

theorem r23 (x : ArgT sg23.args) : runFM cf23 sg23 (bodyOf Try.f23) [6] x = vec_Meets x.1 x.2.1 x.2.2.1 := by kernel_rfl

theorem r5 (x : ArgT sg5.args) : runFM cf5 sg5 (bodyOf Try.f5) [6] x = law02_VecMeets x.1 x.2.1 x.2.2.1 := by kernel_rfl

theorem r54 (x : ArgT ag54) : runFAM cf54 ag54 al54 (bodyOf Try.f54) [(2, some 31)] x = word_Ones x.1 := by kernel_rfl

theorem r15 (x : ArgT ag15) : runFAM cf15 ag15 al15 (bodyOf Try.f15) [(2, some 24)] x = vec_Truth x.1 := by kernel_rfl

theorem r14 (x : ArgT ag14) : runFAM cf14 ag14 al14 (bodyOf Try.f14) [(2, some 31)] x = vec_Word x.1 := by kernel_rfl

theorem r72 (x : ArgT ag72) : runFAM cf72 ag72 al72 (bodyOf Try.f72) [(2, some 31)] x = word_Not x.1 := by kernel_rfl

theorem r18 (x : ArgT ag18) : runFAM cf18 ag18 al18 (bodyOf Try.f18) [(2, some 24)] x = ref02_Of x.1 := by kernel_rfl

theorem r95 (x : ArgT sg95.args) : runFM cf95 sg95 (bodyOf Try.f95) [4, 5] x = bits_Mul64 x.1 x.2.1 := by kernel_rfl

theorem r78 (x : ArgT sg78.args) : runFM cf78 sg78 (bodyOf Try.f78) [4] x = ref01_Text x.1 x.2.1 := by kernel_rfl

theorem r56 (x : ArgT sg56.args) : runFM cf56 sg56 (bodyOf Try.f56) [2, 3] x = ref01_Halves x.1 := by kernel_rfl

theorem r8 (x : ArgT sg8.args) : runFM cf8 sg8 (bodyOf Try.f8) [4] x = law02_VecTexts x.1 x.2.1 := by kernel_rfl

theorem r7 (x : ArgT sg7.args) : runFM cf7 sg7 (bodyOf Try.f7) [4] x = law02_VecOnes x.1 x.2.1 := by kernel_rfl

theorem r83 (x : ArgT sg83.args) : runFM cf83 sg83 (bodyOf Try.f83) [2] x = word_based x.1 := by kernel_rfl

theorem r17 (x : ArgT sg17.args) : runFM cf17 sg17 (bodyOf Try.f17) [2] x = ref02_Bits x.1 := by kernel_rfl

theorem r48 (x : ArgT sg48.args) : runFM cf48 sg48 (bodyOf Try.f48) [2] x = ref02_Text x.1 := by kernel_rfl

theorem r10 (x : ArgT sg10.args) : runFM cf10 sg10 (bodyOf Try.f10) [2] x = ref02_May x.1 := by kernel_rfl

theorem r47 (x : ArgT sg47.args) : runFM cf47 sg47 (bodyOf Try.f47) [2] x = vec_Text x.1 := by kernel_rfl

theorem r16 (x : ArgT sg16.args) : runFM cf16 sg16 (bodyOf Try.f16) [0] x = law02_lives := by kernel_rfl

end Go.Proofs.Ytipdifiahmgciaa

namespace Go.Proofs.Ytipdifiahmgciaa
open Go Go.Pv Go.Proofs Go.L
set_option maxRecDepth 100000

theorem r85 (x : ArgT ag85) : runFAM cf85 ag85 al85 (bodyOf Try.f85) [(4, some 31), (5, none), (6, none)] x = word_Div x.1 x.2.1 := by kernel_rfl

theorem r73a (x : ArgT ag73a) : runFAM cf73a ag73a al73a (bodyOf Try.f73) [(6, some 24), (7, none)] x = vec_moved_93d x.1 x.2.1 := by kernel_rfl

theorem r19 (x : ArgT ag19) : runFAM cf19 ag19 al19 (bodyOf Try.f19) [(6, some 24), (7, none)] x = vec_Slice x.1 x.2.1 x.2.2.1 := by kernel_rfl

theorem r91 (x : ArgT ag91) : runFAM cf91 ag91 al91 (bodyOf Try.f91) [(6, some 61), (7, none)] x = ref01_Sum x.1 x.2.1 x.2.2.1 := by kernel_rfl

theorem r60f (x : ArgT ag60f) : runFAM cf60f ag60f al60f (bodyOf Try.f60) [(6, some 24), (7, none)] x = vec_two_b0d x.1 x.2.1 := by kernel_rfl

theorem r65 (x : ArgT ag65) : runFAM cf65 ag65 al65 (bodyOf Try.f65) [(5, some 31)] x = vec_AddSat_1_6da x.1 x.2.1 x.2.2.1 := by kernel_rfl

theorem r69 (x : ArgT ag69) : runFAM cf69 ag69 al69 (bodyOf Try.f69) [(6, some 24), (7, none)] x = vec_told_44b x.1 x.2.1 := by kernel_rfl

theorem r44 (x : ArgT ag44) : runFAM cf44 ag44 al44 (bodyOf Try.f44) [(4, some 24), (5, none)] x = ref02_Prefix x.1 x.2.1 := by kernel_rfl

theorem r97 (x : ArgT ag97) : runFAM cf97 ag97 al97 (bodyOf Try.f97) [(4, some 61), (5, none)] x = ref01_Minus x.1 x.2.1 := by kernel_rfl

theorem r76 (x : ArgT ag76) : runFAM cf76 ag76 al76 (bodyOf Try.f76) [(4, some 61), (5, none)] x = ref01_Parse x.1 x.2.1 := by kernel_rfl

theorem r39 (x : ArgT ag39) : runFAM cf39 ag39 al39 (bodyOf Try.f39) [(4, some 24), (5, none)] x = vec_Shl x.1 x.2.1 := by kernel_rfl

theorem r82 (x : ArgT sg82.args) : runFM cf82 sg82 (bodyOf Try.f82) [4, 5, 6] x = internal_stringslite_Cut x.1 x.2.1 := by kernel_rfl

theorem r46 (x : ArgT ag46) : runFAM cf46 ag46 al46 (bodyOf Try.f46) [(2, some 24), (3, none)] x = ref02_Parse x.1 := by kernel_rfl

theorem r50 (x : ArgT ag50) : runFAM cf50 ag50 al50 (bodyOf Try.f50) [(4, some 61)] x = ref01_Of x.1 x.2.1 := by kernel_rfl

theorem r53 (x : ArgT ag53) : runFAM cf53 ag53 al53 (bodyOf Try.f53) [(4, some 31)] x = word_And x.1 x.2.1 := by kernel_rfl

theorem r26 (x : ArgT sg26.args) : runFM cf26 sg26 (bodyOf Try.f26) [6] x = ref02_Within x.1 x.2.1 x.2.2.1 := by kernel_rfl

theorem r102 (x : ArgT sg102.args) : runFM cf102 sg102 (bodyOf Try.f102) [2] x = bits_LeadingZeros64 x.1 := by kernel_rfl

theorem r25 (x : ArgT sg25.args) : runFM cf25 sg25 (bodyOf Try.f25) [6] x = vec_Within x.1 x.2.1 x.2.2.1 := by kernel_rfl

theorem r88 (x : ArgT ag88) : runFAM cf88 ag88 al88 (bodyOf Try.f88) [(2, some 61)] x = ref01_Turned x.1 := by kernel_rfl

theorem r3 (x : ArgT sg3.args) : runFM cf3 sg3 (bodyOf Try.f3) [6] x = law02_VecMakes x.1 x.2.1 x.2.2.1 := by kernel_rfl

theorem r90 (x : ArgT sg90.args) : runFM cf90 sg90 (bodyOf Try.f90) [4] x = ref01_Less x.1 x.2.1 := by kernel_rfl

theorem r77 (x : ArgT sg77.args) : runFM cf77 sg77 (bodyOf Try.f77) [4] x = word_Text x.1 x.2.1 := by kernel_rfl

theorem r66 (x : ArgT sg66.args) : runFM cf66 sg66 (bodyOf Try.f66) [4] x = word_Cmp x.1 x.2.1 := by kernel_rfl

theorem r6 (x : ArgT sg6.args) : runFM cf6 sg6 (bodyOf Try.f6) [4] x = law02_VecTwos x.1 x.2.1 := by kernel_rfl

theorem r71 (x : ArgT sg71.args) : runFM cf71 sg71 (bodyOf Try.f71) [2] x = vec_Less_1 x.1 := by kernel_rfl

theorem r84 (x : ArgT sg84.args) : runFM cf84 sg84 (bodyOf Try.f84) [2] x = word_digit x.1 := by kernel_rfl

theorem r49 (x : ArgT sg49.args) : runFM cf49 sg49 (bodyOf Try.f49) [2] x = ref01_Len x.1 := by kernel_rfl

theorem r51 (x : ArgT sg51.args) : runFM cf51 sg51 (bodyOf Try.f51) [2] x = vec_width x.1 := by kernel_rfl

theorem r55 (x : ArgT sg55.args) : runFM cf55 sg55 (bodyOf Try.f55) [2] x = word_Len x.1 := by kernel_rfl

theorem r70 (x : ArgT sg70.args) : runFM cf70 sg70 (bodyOf Try.f70) [2] x = vec_Eq_1 x.1 := by kernel_rfl

theorem r13 (x : ArgT sg13.args) : runFM cf13 sg13 (bodyOf Try.f13) [2] x = vec_May x.1 := by kernel_rfl

end Go.Proofs.Ytipdifiahmgciaa

namespace Go.Proofs.Ytipdifiahmgciaa
open Go Go.Pv Go.Proofs Go.L
set_option maxRecDepth 100000

theorem c50 : Contract Try.prog 50 sm50 :=
  contract_ofAM (C := cf50) (fun f sem h => (Tab.nil : Tab _) _ (lk_mem' h)) (args := ag50) (alts := al50) (fn := Try.f50) (c := bodyOf Try.f50) (ts := [(4, some 61)]) Try.func50 (by kernel_rfl) (by kernel_rfl) (by kernel_rfl) (by kernel_rfl) (by kernel_rfl) (by kernel_rfl) (by kernel_rfl) r50

theorem k50 : Contract Try.prog 50 sem50 := c50

theorem c49 : Contract Try.prog 49 sm49 :=
  contract_ofM (C := cf49) (fun f sem h => (Tab.nil : Tab _) _ (lk_mem' h)) (S := sg49) (fn := Try.f49) (c := bodyOf Try.f49) (ts := [2]) Try.func49 (by kernel_rfl) (by kernel_rfl) (by kernel_rfl) (by kernel_rfl) (by kernel_rfl) (by kernel_rfl) (by kernel_rfl) r49

theorem k49 : Contract Try.prog 49 sem49 := c49

theorem c10 : Contract Try.prog 10 sm10 :=
  contract_ofM (C := cf10) (fun f sem h => (Tab.cons k50 (Tab.cons k49 Tab.nil) : Tab _) _ (lk_mem' h)) (S := sg10) (fn := Try.f10) (c := bodyOf Try.f10) (ts := [2]) Try.func10 (by kernel_rfl) (by kernel_rfl) (by kernel_rfl) (by kernel_rfl) (by kernel_rfl) (by kernel_rfl) (by kernel_rfl) r10

theorem k10 : Contract Try.prog 10 sem10 := c10

theorem c51 : Contract Try.prog 51 sm51 :=
  contract_ofM (C := cf51) (fun f sem h => (Tab.nil : Tab _) _ (lk_mem' h)) (S := sg51) (fn := Try.f51) (c := bodyOf Try.f51) (ts := [2]) Try.func51 (by kernel_rfl) (by kernel_rfl) (by kernel_rfl) (by kernel_rfl) (by kernel_rfl) (by kernel_rfl) (by kernel_rfl) r51

theorem k51 : Contract Try.prog 51 sem51 := c51

theorem c14 : Contract Try.prog 14 sm14 :=
  contract_ofAM (C := cf14) (fun f sem h => (Tab.nil : Tab _) _ (lk_mem' h)) (args := ag14) (alts := al14) (fn := Try.f14) (c := bodyOf Try.f14) (ts := [(2, some 31)]) Try.func14 (by kernel_rfl) (by kernel_rfl) (by kernel_rfl) (by kernel_rfl) (by kernel_rfl) (by kernel_rfl) (by kernel_rfl) r14

theorem k14 : Contract Try.prog 14 sem14 := c14

theorem c79 : Contract Try.prog 79 sm79 :=
  contract_ofM (C := cf79) (fun f sem h => (Tab.nil : Tab _) _ (lk_mem' h)) (S := sg79) (fn := Try.f79) (c := bodyOf Try.f79) (ts := [2]) Try.func79 (by kernel_rfl) (by kernel_rfl) (by kernel_rfl) (by kernel_rfl) (by kernel_rfl) (by kernel_rfl) (by kernel_rfl) r79

theorem k79 : Contract Try.prog 79 sem79 := c79

theorem c55 : Contract Try.prog 55 sm55 :=
  contract_ofM (C := cf55) (fun f sem h => (Tab.cons k79 Tab.nil : Tab _) _ (lk_mem' h)) (S := sg55) (fn := Try.f55) (c := bodyOf Try.f55) (ts := [2]) Try.func55 (by kernel_rfl) (by kernel_rfl) (by kernel_rfl) (by kernel_rfl) (by kernel_rfl) (by kernel_rfl) (by kernel_rfl) r55

theorem k55 : Contract Try.prog 55 sem55 := c55

theorem c13 : Contract Try.prog 13 sm13 :=
  contract_ofM (C := cf13) (fun f sem h => (Tab.cons k51 (Tab.cons k14 (Tab.cons k55 Tab.nil)) : Tab _) _ (lk_mem' h)) (S := sg13) (fn := Try.f13) (c := bodyOf Try.f13) (ts := [2]) Try.func13 (by kernel_rfl) (by kernel_rfl) (by kernel_rfl) (by kernel_rfl) (by kernel_rfl) (by kernel_rfl) (by kernel_rfl) r13

theorem k13 : Contract Try.prog 13 sem13 := c13

theorem c11 : Contract Try.prog 11 sm11 :=
  contract_ofAM (C := cf11) (fun f sem h => (Tab.cons k51 (Tab.cons k13 Tab.nil) : Tab _) _ (lk_mem' h)) (args := ag11) (alts := al11) (fn := Try.f11) (c := bodyOf Try.f11) (ts := [(6, some 24), (7, none)]) Try.func11 (by kernel_rfl) (by kernel_rfl) (by kernel_rfl) (by kernel_rfl) (by kernel_rfl) (by kernel_rfl) (by kernel_rfl) r11

theorem k11 : Contract Try.prog 11 sem11 := c11

theorem c72 : Contract Try.prog 72 sm72 :=
  contract_ofAM (C := cf72) (fun f sem h => (Tab.nil : Tab _) _ (lk_mem' h)) (args := ag72) (alts := al72) (fn := Try.f72) (c := bodyOf Try.f72) (ts := [(2, some 31)]) Try.func72 (by kernel_rfl) (by kernel_rfl) (by kernel_rfl) (by kernel_rfl) (by kernel_rfl) (by kernel_rfl) (by kernel_rfl) r72

theorem k72 : Contract Try.prog 72 sem72 := c72

theorem c59S (word_Shl : (Int × Int × Unit) → Int → Option (((Int × Int × Unit) × Unit) × (Unit))) (word_Shr : (Int × Int × Unit) → Int → Option (((Int × Int × Unit) × Unit) × (Unit))) (h59 : Contract Try.prog 59 (sm59 word_Shl)) (h57 : Contract Try.prog 57 (sm57 word_Shr)) : Contract Try.prog 59 (sm59 (word_Shl_g word_Shl word_Shr)) :=
  contract_ofAM (C := cf59 word_Shl word_Shr) (fun f sem h => (Tab.cons h57 Tab.nil : Tab _) _ (lk_mem' h)) (args := ag59) (alts := al59) (fn := Try.f59) (c := bodyOf Try.f59) (ts := [(4, some 31)]) Try.func59 (by kernel_rfl) (by kernel_rfl) (by kernel_rfl) (by kernel_rfl) (by kernel_rfl) (by kernel_rfl) (by kernel_rfl) (r59 word_Shl word_Shr)
theorem c57S (word_Shl : (Int × Int × Unit) → Int → Option (((Int × Int × Unit) × Unit) × (Unit))) (word_Shr : (Int × Int × Unit) → Int → Option (((Int × Int × Unit) × Unit) × (Unit))) (h59 : Contract Try.prog 59 (sm59 word_Shl)) (h57 : Contract Try.prog 57 (sm57 word_Shr)) : Contract Try.prog 57 (sm57 (word_Shr_g word_Shl word_Shr)) :=
  contract_ofAM (C := cf57 word_Shl word_Shr) (fun f sem h => (Tab.cons h59 Tab.nil : Tab _) _ (lk_mem' h)) (args := ag57) (alts := al57) (fn := Try.f57) (c := bodyOf Try.f57) (ts := [(4, some 31)]) Try.func57 (by kernel_rfl) (by kernel_rfl) (by kernel_rfl) (by kernel_rfl) (by kernel_rfl) (by kernel_rfl) (by kernel_rfl) (r57 word_Shl word_Shr)
theorem lc57 : ∀ k, Contract Try.prog 59 (sm59 ((word_Shr_lv k).1)) ∧ Contract Try.prog 57 (sm57 ((word_Shr_lv k).2))
  | 0 => ⟨(by intro avs s hs r hr w B os ow vs _ _; obtain ⟨x, hx, rfl⟩ := Option.map_eq_some_iff.1 hs; cases hr), (by intro avs s hs r hr w B os ow vs _ _; obtain ⟨x, hx, rfl⟩ := Option.map_eq_some_iff.1 hs; cases hr)⟩
  | k + 1 => by
    have ih := lc57 k
    exact ⟨c59S _ _ ih.1 ih.2, c57S _ _ ih.1 ih.2⟩
theorem c59 : Contract Try.prog 59 (sm59 word_Shl) := (lc57 3).1
theorem c57 : Contract Try.prog 57 (sm57 word_Shr) := (lc57 3).2

theorem k57 : Contract Try.prog 57 sem57 := c57

theorem k59 : Contract Try.prog 59 sem59 := c59

theorem c81 : Contract Try.prog 81 sm81 := sub64_contract Try.func81 (by kernel_rfl) (by kernel_rfl) (by kernel_rfl) (by kernel_rfl)

theorem k81 : Contract Try.prog 81 sem81 := c81

theorem c64 : Contract Try.prog 64 sm64 :=
  contract_ofAM (C := cf64) (fun f sem h => (Tab.cons k81 Tab.nil : Tab _) _ (lk_mem' h)) (args := ag64) (alts := al64) (fn := Try.f64) (c := bodyOf Try.f64) (ts := [(4, some 31), (5, none)]) Try.func64 (by kernel_rfl) (by kernel_rfl) (by kernel_rfl) (by kernel_rfl) (by kernel_rfl) (by kernel_rfl) (by kernel_rfl) r64

theorem k64 : Contract Try.prog 64 sem64 := c64

theorem c54 : Contract Try.prog 54 sm54 :=
  contract_ofAM (C := cf54) (fun f sem h => (Tab.cons k72 (Tab.cons k59 (Tab.cons k64 Tab.nil)) : Tab _) _ (lk_mem' h)) (args := ag54) (alts := al54) (fn := Try.f54) (c := bodyOf Try.f54) (ts := [(2, some 31)]) Try.func54 (by kernel_rfl) (by kernel_rfl) (by kernel_rfl) (by kernel_rfl) (by kernel_rfl) (by kernel_rfl) (by kernel_rfl) r54

theorem k54 : Contract Try.prog 54 sem54 := c54

theorem c53 : Contract Try.prog 53 sm53 :=
  contract_ofAM (C := cf53) (fun f sem h => (Tab.nil : Tab _) _ (lk_mem' h)) (args := ag53) (alts := al53) (fn := Try.f53) (c := bodyOf Try.f53) (ts := [(4, some 31)]) Try.func53 (by kernel_rfl) (by kernel_rfl) (by kernel_rfl) (by kernel_rfl) (by kernel_rfl) (by kernel_rfl) (by kernel_rfl) r53

theorem k53 : Contract Try.prog 53 sem53 := c53

theorem c52 : Contract Try.prog 52 sm52 :=
  contract_ofAM (C := cf52) (fun f sem h => (Tab.nil : Tab _) _ (lk_mem' h)) (args := ag52) (alts := al52) (fn := Try.f52) (c := bodyOf Try.f52) (ts := [(4, some 24)]) Try.func52 (by kernel_rfl) (by kernel_rfl) (by kernel_rfl) (by kernel_rfl) (by kernel_rfl) (by kernel_rfl) (by kernel_rfl) r52

theorem k52 : Contract Try.prog 52 sem52 := c52

theorem c12 : Contract Try.prog 12 sm12 :=
  contract_ofAM (C := cf12) (fun f sem h => (Tab.cons k51 (Tab.cons k54 (Tab.cons k53 (Tab.cons k52 Tab.nil))) : Tab _) _ (lk_mem' h)) (args := ag12) (alts := al12) (fn := Try.f12) (c := bodyOf Try.f12) (ts := [(4, some 24), (5, none)]) Try.func12 (by kernel_rfl) (by kernel_rfl) (by kernel_rfl) (by kernel_rfl) (by kernel_rfl) (by kernel_rfl) (by kernel_rfl) r12

theorem k12 : Contract Try.prog 12 sem12 := c12

theorem c15 : Contract Try.prog 15 sm15 :=
  contract_ofAM (C := cf15) (fun f sem h => (Tab.nil : Tab _) _ (lk_mem' h)) (args := ag15) (alts := al15) (fn := Try.f15) (c := bodyOf Try.f15) (ts := [(2, some 24)]) Try.func15 (by kernel_rfl) (by kernel_rfl) (by kernel_rfl) (by kernel_rfl) (by kernel_rfl) (by kernel_rfl) (by kernel_rfl) r15

theorem k15 : Contract Try.prog 15 sem15 := c15

theorem c80 : Contract Try.prog 80 sm80 := add64_contract Try.func80 (by kernel_rfl) (by kernel_rfl) (by kernel_rfl) (by kernel_rfl)

theorem k80 : Contract Try.prog 80 sem80 := c80

theorem c62 : Contract Try.prog 62 sm62 :=
  contract_ofAM (C := cf62) (fun f sem h => (Tab.cons k80 Tab.nil : Tab _) _ (lk_mem' h)) (args := ag62) (alts := al62) (fn := Try.f62) (c := bodyOf Try.f62) (ts := [(4, some 31), (5, none)]) Try.func62 (by kernel_rfl) (by kernel_rfl) (by kernel_rfl) (by kernel_rfl) (by kernel_rfl) (by kernel_rfl) (by kernel_rfl) r62

theorem k62 : Contract Try.prog 62 sem62 := c62

theorem c61 : Contract Try.prog 61 sm61 :=
  contract_ofAM (C := cf61) (fun f sem h => (Tab.cons k62 Tab.nil : Tab _) _ (lk_mem' h)) (args := ag61) (alts := al61) (fn := Try.f61) (c := bodyOf Try.f61) (ts := [(4, some 31)]) Try.func61 (by kernel_rfl) (by kernel_rfl) (by kernel_rfl) (by kernel_rfl) (by kernel_rfl) (by kernel_rfl) (by kernel_rfl) r61

theorem k61 : Contract Try.prog 61 sem61 := c61

theorem c66 : Contract Try.prog 66 sm66 :=
  contract_ofM (C := cf66) (fun f sem h => (Tab.cons k64 Tab.nil : Tab _) _ (lk_mem' h)) (S := sg66) (fn := Try.f66) (c := bodyOf Try.f66) (ts := [4]) Try.func66 (by kernel_rfl) (by kernel_rfl) (by kernel_rfl) (by kernel_rfl) (by kernel_rfl) (by kernel_rfl) (by kernel_rfl) r66

theorem k66 : Contract Try.prog 66 sem66 := c66

theorem c65 : Contract Try.prog 65 sm65 :=
  contract_ofAM (C := cf65) (fun f sem h => (Tab.cons k62 (Tab.cons k66 Tab.nil) : Tab _) _ (lk_mem' h)) (args := ag65) (alts := al65) (fn := Try.f65) (c := bodyOf Try.f65) (ts := [(5, some 31)]) Try.func65 (by kernel_rfl) (by kernel_rfl) (by kernel_rfl) (by kernel_rfl) (by kernel_rfl) (by kernel_rfl) (by kernel_rfl) r65

theorem k65 : Contract Try.prog 65 sem65 := c65

theorem c63 : Contract Try.prog 63 sm63 :=
  contract_ofAM (C := cf63) (fun f sem h => (Tab.cons k64 Tab.nil : Tab _) _ (lk_mem' h)) (args := ag63) (alts := al63) (fn := Try.f63) (c := bodyOf Try.f63) (ts := [(4, some 31)]) Try.func63 (by kernel_rfl) (by kernel_rfl) (by kernel_rfl) (by kernel_rfl) (by kernel_rfl) (by kernel_rfl) (by kernel_rfl) r63

theorem k63 : Contract Try.prog 63 sem63 := c63

theorem c67 : Contract Try.prog 67 sm67 :=
  contract_ofAM (C := cf67) (fun f sem h => (Tab.cons k64 Tab.nil : Tab _) _ (lk_mem' h)) (args := ag67) (alts := al67) (fn := Try.f67) (c := bodyOf Try.f67) (ts := [(4, some 31)]) Try.func67 (by kernel_rfl) (by kernel_rfl) (by kernel_rfl) (by kernel_rfl) (by kernel_rfl) (by kernel_rfl) (by kernel_rfl) r67

theorem k67 : Contract Try.prog 67 sem67 := c67

theorem c58 : Contract Try.prog 58 sm58 :=
  contract_ofAM (C := cf58) (fun f sem h => (Tab.nil : Tab _) _ (lk_mem' h)) (args := ag58) (alts := al58) (fn := Try.f58) (c := bodyOf Try.f58) (ts := [(4, some 31)]) Try.func58 (by kernel_rfl) (by kernel_rfl) (by kernel_rfl) (by kernel_rfl) (by kernel_rfl) (by kernel_rfl) (by kernel_rfl) r58

theorem k58 : Contract Try.prog 58 sem58 := c58

theorem c68 : Contract Try.prog 68 sm68 :=
  contract_ofAM (C := cf68) (fun f sem h => (Tab.nil : Tab _) _ (lk_mem' h)) (args := ag68) (alts := al68) (fn := Try.f68) (c := bodyOf Try.f68) (ts := [(4, some 31)]) Try.func68 (by kernel_rfl) (by kernel_rfl) (by kernel_rfl) (by kernel_rfl) (by kernel_rfl) (by kernel_rfl) (by kernel_rfl) r68

theorem k68 : Contract Try.prog 68 sem68 := c68

theorem c60 : Contract Try.prog 60 sm60 :=
  contract_ofAM (C := cf60) (fun f sem h => (Tab.cons k13 (Tab.cons k14 (Tab.cons k61 (Tab.cons k12 Tab.nil))) : Tab _) _ (lk_mem' h)) (args := ag60) (alts := al60) (fn := Try.f60) (c := bodyOf Try.f60) (ts := [(6, some 24), (7, none)]) Try.func60 (by kernel_rfl) (by kernel_rfl) (by kernel_rfl) (by kernel_rfl) (by kernel_rfl) (by kernel_rfl) (by kernel_rfl) r60

theorem c60a : Contract Try.prog 60 sm60a :=
  contract_ofAM (C := cf60a) (fun f sem h => (Tab.cons k13 (Tab.cons k14 (Tab.cons k65 (Tab.cons k12 Tab.nil))) : Tab _) _ (lk_mem' h)) (args := ag60a) (alts := al60a) (fn := Try.f60) (c := bodyOf Try.f60) (ts := [(6, some 24), (7, none)]) Try.func60 (by kernel_rfl) (by kernel_rfl) (by kernel_rfl) (by kernel_rfl) (by kernel_rfl) (by kernel_rfl) (by kernel_rfl) r60a

theorem c60b : Contract Try.prog 60 sm60b :=
  contract_ofAM (C := cf60b) (fun f sem h => (Tab.cons k13 (Tab.cons k14 (Tab.cons k53 (Tab.cons k12 Tab.nil))) : Tab _) _ (lk_mem' h)) (args := ag60b) (alts := al60b) (fn := Try.f60) (c := bodyOf Try.f60) (ts := [(6, some 24), (7, none)]) Try.func60 (by kernel_rfl) (by kernel_rfl) (by kernel_rfl) (by kernel_rfl) (by kernel_rfl) (by kernel_rfl) (by kernel_rfl) r60b

theorem c60c : Contract Try.prog 60 sm60c :=
  contract_ofAM (C := cf60c) (fun f sem h => (Tab.cons k13 (Tab.cons k14 (Tab.cons k63 (Tab.cons k12 Tab.nil))) : Tab _) _ (lk_mem' h)) (args := ag60c) (alts := al60c) (fn := Try.f60) (c := bodyOf Try.f60) (ts := [(6, some 24), (7, none)]) Try.func60 (by kernel_rfl) (by kernel_rfl) (by kernel_rfl) (by kernel_rfl) (by kernel_rfl) (by kernel_rfl) (by kernel_rfl) r60c

theorem c60d : Contract Try.prog 60 sm60d :=
  contract_ofAM (C := cf60d) (fun f sem h => (Tab.cons k13 (Tab.cons k14 (Tab.cons k67 (Tab.cons k12 Tab.nil))) : Tab _) _ (lk_mem' h)) (args := ag60d) (alts := al60d) (fn := Try.f60) (c := bodyOf Try.f60) (ts := [(6, some 24), (7, none)]) Try.func60 (by kernel_rfl) (by kernel_rfl) (by kernel_rfl) (by kernel_rfl) (by kernel_rfl) (by kernel_rfl) (by kernel_rfl) r60d

theorem c60e : Contract Try.prog 60 sm60e :=
  contract_ofAM (C := cf60e) (fun f sem h => (Tab.cons k13 (Tab.cons k14 (Tab.cons k58 (Tab.cons k12 Tab.nil))) : Tab _) _ (lk_mem' h)) (args := ag60e) (alts := al60e) (fn := Try.f60) (c := bodyOf Try.f60) (ts := [(6, some 24), (7, none)]) Try.func60 (by kernel_rfl) (by kernel_rfl) (by kernel_rfl) (by kernel_rfl) (by kernel_rfl) (by kernel_rfl) (by kernel_rfl) r60e

theorem c60f : Contract Try.prog 60 sm60f :=
  contract_ofAM (C := cf60f) (fun f sem h => (Tab.cons k13 (Tab.cons k14 (Tab.cons k68 (Tab.cons k12 Tab.nil))) : Tab _) _ (lk_mem' h)) (args := ag60f) (alts := al60f) (fn := Try.f60) (c := bodyOf Try.f60) (ts := [(6, some 24), (7, none)]) Try.func60 (by kernel_rfl) (by kernel_rfl) (by kernel_rfl) (by kernel_rfl) (by kernel_rfl) (by kernel_rfl) (by kernel_rfl) r60f

theorem k60 : Contract Try.prog 60 sem60 := contract_or c60 (contract_or c60a (contract_or c60b (contract_or c60c (contract_or c60d (contract_or c60e (c60f))))))

theorem c27 : Contract Try.prog 27 sm27 :=
  contract_ofAM (C := cf27) (fun f sem h => (Tab.cons k60 Tab.nil : Tab _) _ (lk_mem' h)) (args := ag27) (alts := al27) (fn := Try.f27) (c := bodyOf Try.f27) (ts := [(4, some 24), (5, none)]) Try.func27 (by kernel_rfl) (by kernel_rfl) (by kernel_rfl) (by kernel_rfl) (by kernel_rfl) (by kernel_rfl) (by kernel_rfl) r27

theorem k27 : Contract Try.prog 27 sem27 := c27

theorem c29 : Contract Try.prog 29 sm29 :=
  contract_ofAM (C := cf29) (fun f sem h => (Tab.cons k54 (Tab.cons k60 Tab.nil) : Tab _) _ (lk_mem' h)) (args := ag29) (alts := al29) (fn := Try.f29) (c := bodyOf Try.f29) (ts := [(4, some 24), (5, none)]) Try.func29 (by kernel_rfl) (by kernel_rfl) (by kernel_rfl) (by kernel_rfl) (by kernel_rfl) (by kernel_rfl) (by kernel_rfl) r29

theorem k29 : Contract Try.prog 29 sem29 := c29

theorem c83 : Contract Try.prog 83 sm83 :=
  contract_ofM (C := cf83) (fun f sem h => (Tab.nil : Tab _) _ (lk_mem' h)) (S := sg83) (fn := Try.f83) (c := bodyOf Try.f83) (ts := [2]) Try.func83 (by kernel_rfl) (by kernel_rfl) (by kernel_rfl) (by kernel_rfl) (by kernel_rfl) (by kernel_rfl) (by kernel_rfl) r83

theorem k83 : Contract Try.prog 83 sem83 := c83

theorem c102 : Contract Try.prog 102 sm102 :=
  contract_ofM (C := cf102) (fun f sem h => (Tab.cons k79 Tab.nil : Tab _) _ (lk_mem' h)) (S := sg102) (fn := Try.f102) (c := bodyOf Try.f102) (ts := [2]) Try.func102 (by kernel_rfl) (by kernel_rfl) (by kernel_rfl) (by kernel_rfl) (by kernel_rfl) (by kernel_rfl) (by kernel_rfl) r102

theorem k102 : Contract Try.prog 102 sem102 := c102

theorem c94 : Contract Try.prog 94 sm94 :=
  contract_ofM (C := cf94) (fun f sem h => (Tab.cons k102 Tab.nil : Tab _) _ (lk_mem' h)) (S := sg94) (fn := Try.f94) (c := bodyOf Try.f94) (ts := [6, 7]) Try.func94 (by kernel_rfl) (by kernel_rfl) (by kernel_rfl) (by kernel_rfl) (by kernel_rfl) (by kernel_rfl) (by kernel_rfl) r94

theorem k94 : Contract Try.prog 94 sem94 := c94

theorem c85 : Contract Try.prog 85 sm85 :=
  contract_ofAM (C := cf85) (fun f sem h => (Tab.cons k94 Tab.nil : Tab _) _ (lk_mem' h)) (args := ag85) (alts := al85) (fn := Try.f85) (c := bodyOf Try.f85) (ts := [(4, some 31), (5, none), (6, none)]) Try.func85 (by kernel_rfl) (by kernel_rfl) (by kernel_rfl) (by kernel_rfl) (by kernel_rfl) (by kernel_rfl) (by kernel_rfl) r85

theorem k85 : Contract Try.prog 85 sem85 := c85

theorem c77 : Contract Try.prog 77 sm77 :=
  contract_ofM (C := cf77) (fun f sem h => (Tab.cons k83 (Tab.cons k85 Tab.nil) : Tab _) _ (lk_mem' h)) (S := sg77) (fn := Try.f77) (c := bodyOf Try.f77) (ts := [4]) Try.func77 (by kernel_rfl) (by kernel_rfl) (by kernel_rfl) (by kernel_rfl) (by kernel_rfl) (by kernel_rfl) (by kernel_rfl) r77

theorem k77 : Contract Try.prog 77 sem77 := c77

theorem c47 : Contract Try.prog 47 sm47 :=
  contract_ofM (C := cf47) (fun f sem h => (Tab.cons k13 (Tab.cons k77 (Tab.cons k14 Tab.nil)) : Tab _) _ (lk_mem' h)) (S := sg47) (fn := Try.f47) (c := bodyOf Try.f47) (ts := [2]) Try.func47 (by kernel_rfl) (by kernel_rfl) (by kernel_rfl) (by kernel_rfl) (by kernel_rfl) (by kernel_rfl) (by kernel_rfl) r47

theorem k47 : Contract Try.prog 47 sem47 := c47

theorem c16 : Contract Try.prog 16 sm16 :=
  contract_ofM (C := cf16) (fun f sem h => (Tab.cons k27 (Tab.cons k29 (Tab.cons k47 Tab.nil)) : Tab _) _ (lk_mem' h)) (S := sg16) (fn := Try.f16) (c := bodyOf Try.f16) (ts := [0]) Try.func16 (by kernel_rfl) (by kernel_rfl) (by kernel_rfl) (by kernel_rfl) (by kernel_rfl) (by kernel_rfl) (by kernel_rfl) r16

theorem k16 : Contract Try.prog 16 sem16 := c16

theorem c17 : Contract Try.prog 17 sm17 :=
  contract_ofM (C := cf17) (fun f sem h => (Tab.cons k50 Tab.nil : Tab _) _ (lk_mem' h)) (S := sg17) (fn := Try.f17) (c := bodyOf Try.f17) (ts := [2]) Try.func17 (by kernel_rfl) (by kernel_rfl) (by kernel_rfl) (by kernel_rfl) (by kernel_rfl) (by kernel_rfl) (by kernel_rfl) r17

theorem k17 : Contract Try.prog 17 sem17 := c17

theorem c56 : Contract Try.prog 56 sm56 :=
  contract_ofM (C := cf56) (fun f sem h => (Tab.nil : Tab _) _ (lk_mem' h)) (S := sg56) (fn := Try.f56) (c := bodyOf Try.f56) (ts := [2, 3]) Try.func56 (by kernel_rfl) (by kernel_rfl) (by kernel_rfl) (by kernel_rfl) (by kernel_rfl) (by kernel_rfl) (by kernel_rfl) r56

theorem k56 : Contract Try.prog 56 sem56 := c56

theorem c18 : Contract Try.prog 18 sm18 :=
  contract_ofAM (C := cf18) (fun f sem h => (Tab.cons k56 Tab.nil : Tab _) _ (lk_mem' h)) (args := ag18) (alts := al18) (fn := Try.f18) (c := bodyOf Try.f18) (ts := [(2, some 24)]) Try.func18 (by kernel_rfl) (by kernel_rfl) (by kernel_rfl) (by kernel_rfl) (by kernel_rfl) (by kernel_rfl) (by kernel_rfl) r18

theorem k18 : Contract Try.prog 18 sem18 := c18

theorem c3 : Contract Try.prog 3 sm3 :=
  contract_ofM (C := cf3) (fun f sem h => (Tab.cons k10 (Tab.cons k11 (Tab.cons k12 (Tab.cons k13 (Tab.cons k14 (Tab.cons k15 (Tab.cons k16 (Tab.cons k17 (Tab.cons k18 Tab.nil)))))))) : Tab _) _ (lk_mem' h)) (S := sg3) (fn := Try.f3) (c := bodyOf Try.f3) (ts := [6]) Try.func3 (by kernel_rfl) (by kernel_rfl) (by kernel_rfl) (by kernel_rfl) (by kernel_rfl) (by kernel_rfl) (by kernel_rfl) r3

theorem k3 : Contract Try.prog 3 sem3 := c3

theorem c19 : Contract Try.prog 19 sm19 :=
  contract_ofAM (C := cf19) (fun f sem h => (Tab.cons k13 (Tab.cons k14 (Tab.cons k57 (Tab.cons k12 Tab.nil))) : Tab _) _ (lk_mem' h)) (args := ag19) (alts := al19) (fn := Try.f19) (c := bodyOf Try.f19) (ts := [(6, some 24), (7, none)]) Try.func19 (by kernel_rfl) (by kernel_rfl) (by kernel_rfl) (by kernel_rfl) (by kernel_rfl) (by kernel_rfl) (by kernel_rfl) r19

theorem k19 : Contract Try.prog 19 sem19 := c19

theorem c20 : Contract Try.prog 20 sm20 :=
  contract_ofAM (C := cf20) (fun f sem h => (Tab.cons k10 (Tab.cons k17 (Tab.cons k18 Tab.nil)) : Tab _) _ (lk_mem' h)) (args := ag20) (alts := al20) (fn := Try.f20) (c := bodyOf Try.f20) (ts := [(6, some 24), (7, none)]) Try.func20 (by kernel_rfl) (by kernel_rfl) (by kernel_rfl) (by kernel_rfl) (by kernel_rfl) (by kernel_rfl) (by kernel_rfl) r20

theorem k20 : Contract Try.prog 20 sem20 := c20

theorem c21 : Contract Try.prog 21 sm21 :=
  contract_ofAM (C := cf21) (fun f sem h => (Tab.cons k13 (Tab.cons k14 (Tab.cons k59 (Tab.cons k58 (Tab.cons k52 Tab.nil)))) : Tab _) _ (lk_mem' h)) (args := ag21) (alts := al21) (fn := Try.f21) (c := bodyOf Try.f21) (ts := [(4, some 24), (5, none)]) Try.func21 (by kernel_rfl) (by kernel_rfl) (by kernel_rfl) (by kernel_rfl) (by kernel_rfl) (by kernel_rfl) (by kernel_rfl) r21

theorem k21 : Contract Try.prog 21 sem21 := c21

theorem c22 : Contract Try.prog 22 sm22 :=
  contract_ofAM (C := cf22) (fun f sem h => (Tab.cons k10 (Tab.cons k17 (Tab.cons k18 Tab.nil)) : Tab _) _ (lk_mem' h)) (args := ag22) (alts := al22) (fn := Try.f22) (c := bodyOf Try.f22) (ts := [(4, some 24), (5, none)]) Try.func22 (by kernel_rfl) (by kernel_rfl) (by kernel_rfl) (by kernel_rfl) (by kernel_rfl) (by kernel_rfl) (by kernel_rfl) r22

theorem k22 : Contract Try.prog 22 sem22 := c22

theorem c4 : Contract Try.prog 4 sm4 :=
  contract_ofM (C := cf4) (fun f sem h => (Tab.cons k19 (Tab.cons k20 (Tab.cons k21 (Tab.cons k22 (Tab.cons k16 Tab.nil)))) : Tab _) _ (lk_mem' h)) (S := sg4) (fn := Try.f4) (c := bodyOf Try.f4) (ts := [6]) Try.func4 (by kernel_rfl) (by kernel_rfl) (by kernel_rfl) (by kernel_rfl) (by kernel_rfl) (by kernel_rfl) (by kernel_rfl) r4

theorem k4 : Contract Try.prog 4 sem4 := c4

theorem c31 : Contract Try.prog 31 sm31 :=
  contract_ofAM (C := cf31) (fun f sem h => (Tab.cons k60 Tab.nil : Tab _) _ (lk_mem' h)) (args := ag31) (alts := al31) (fn := Try.f31) (c := bodyOf Try.f31) (ts := [(4, some 24), (5, none)]) Try.func31 (by kernel_rfl) (by kernel_rfl) (by kernel_rfl) (by kernel_rfl) (by kernel_rfl) (by kernel_rfl) (by kernel_rfl) r31

theorem k31 : Contract Try.prog 31 sem31 := c31

theorem c23 : Contract Try.prog 23 sm23 :=
  contract_ofM (C := cf23) (fun f sem h => (Tab.cons k31 Tab.nil : Tab _) _ (lk_mem' h)) (S := sg23) (fn := Try.f23) (c := bodyOf Try.f23) (ts := [6]) Try.func23 (by kernel_rfl) (by kernel_rfl) (by kernel_rfl) (by kernel_rfl) (by kernel_rfl) (by kernel_rfl) (by kernel_rfl) r23

theorem k23 : Contract Try.prog 23 sem23 := c23

theorem c24 : Contract Try.prog 24 sm24 :=
  contract_ofM (C := cf24) (fun f sem h => (Tab.cons k10 (Tab.cons k17 Tab.nil) : Tab _) _ (lk_mem' h)) (S := sg24) (fn := Try.f24) (c := bodyOf Try.f24) (ts := [6]) Try.func24 (by kernel_rfl) (by kernel_rfl) (by kernel_rfl) (by kernel_rfl) (by kernel_rfl) (by kernel_rfl) (by kernel_rfl) r24

theorem k24 : Contract Try.prog 24 sem24 := c24

theorem c71 : Contract Try.prog 71 sm71 :=
  contract_ofM (C := cf71) (fun f sem h => (Tab.nil : Tab _) _ (lk_mem' h)) (S := sg71) (fn := Try.f71) (c := bodyOf Try.f71) (ts := [2]) Try.func71 (by kernel_rfl) (by kernel_rfl) (by kernel_rfl) (by kernel_rfl) (by kernel_rfl) (by kernel_rfl) (by kernel_rfl) r71

theorem k71 : Contract Try.prog 71 sem71 := c71

theorem c70 : Contract Try.prog 70 sm70 :=
  contract_ofM (C := cf70) (fun f sem h => (Tab.nil : Tab _) _ (lk_mem' h)) (S := sg70) (fn := Try.f70) (c := bodyOf Try.f70) (ts := [2]) Try.func70 (by kernel_rfl) (by kernel_rfl) (by kernel_rfl) (by kernel_rfl) (by kernel_rfl) (by kernel_rfl) (by kernel_rfl) r70

theorem k70 : Contract Try.prog 70 sem70 := c70

theorem c69 : Contract Try.prog 69 sm69 :=
  contract_ofAM (C := cf69) (fun f sem h => (Tab.cons k60 (Tab.cons k14 (Tab.cons k66 (Tab.cons k71 (Tab.cons k15 Tab.nil)))) : Tab _) _ (lk_mem' h)) (args := ag69) (alts := al69) (fn := Try.f69) (c := bodyOf Try.f69) (ts := [(6, some 24), (7, none)]) Try.func69 (by kernel_rfl) (by kernel_rfl) (by kernel_rfl) (by kernel_rfl) (by kernel_rfl) (by kernel_rfl) (by kernel_rfl) r69

theorem c69a : Contract Try.prog 69 sm69a :=
  contract_ofAM (C := cf69a) (fun f sem h => (Tab.cons k60 (Tab.cons k14 (Tab.cons k66 (Tab.cons k70 (Tab.cons k15 Tab.nil)))) : Tab _) _ (lk_mem' h)) (args := ag69a) (alts := al69a) (fn := Try.f69) (c := bodyOf Try.f69) (ts := [(6, some 24), (7, none)]) Try.func69 (by kernel_rfl) (by kernel_rfl) (by kernel_rfl) (by kernel_rfl) (by kernel_rfl) (by kernel_rfl) (by kernel_rfl) r69a

theorem k69 : Contract Try.prog 69 sem69 := contract_or c69 (c69a)

theorem c35 : Contract Try.prog 35 sm35 :=
  contract_ofAM (C := cf35) (fun f sem h => (Tab.cons k69 Tab.nil : Tab _) _ (lk_mem' h)) (args := ag35) (alts := al35) (fn := Try.f35) (c := bodyOf Try.f35) (ts := [(4, some 24), (5, none)]) Try.func35 (by kernel_rfl) (by kernel_rfl) (by kernel_rfl) (by kernel_rfl) (by kernel_rfl) (by kernel_rfl) (by kernel_rfl) r35

theorem k35 : Contract Try.prog 35 sem35 := c35

theorem c25 : Contract Try.prog 25 sm25 :=
  contract_ofM (C := cf25) (fun f sem h => (Tab.cons k35 Tab.nil : Tab _) _ (lk_mem' h)) (S := sg25) (fn := Try.f25) (c := bodyOf Try.f25) (ts := [6]) Try.func25 (by kernel_rfl) (by kernel_rfl) (by kernel_rfl) (by kernel_rfl) (by kernel_rfl) (by kernel_rfl) (by kernel_rfl) r25

theorem k25 : Contract Try.prog 25 sem25 := c25

theorem c36 : Contract Try.prog 36 sm36 :=
  contract_ofAM (C := cf36) (fun f sem h => (Tab.cons k10 (Tab.cons k17 (Tab.cons k18 Tab.nil)) : Tab _) _ (lk_mem' h)) (args := ag36) (alts := al36) (fn := Try.f36) (c := bodyOf Try.f36) (ts := [(6, some 24), (7, none)]) Try.func36 (by kernel_rfl) (by kernel_rfl) (by kernel_rfl) (by kernel_rfl) (by kernel_rfl) (by kernel_rfl) (by kernel_rfl) r36

theorem k36 : Contract Try.prog 36 sem36 := c36

theorem c26 : Contract Try.prog 26 sm26 :=
  contract_ofM (C := cf26) (fun f sem h => (Tab.cons k36 Tab.nil : Tab _) _ (lk_mem' h)) (S := sg26) (fn := Try.f26) (c := bodyOf Try.f26) (ts := [6]) Try.func26 (by kernel_rfl) (by kernel_rfl) (by kernel_rfl) (by kernel_rfl) (by kernel_rfl) (by kernel_rfl) (by kernel_rfl) r26

theorem k26 : Contract Try.prog 26 sem26 := c26

theorem c5 : Contract Try.prog 5 sm5 :=
  contract_ofM (C := cf5) (fun f sem h => (Tab.cons k23 (Tab.cons k24 (Tab.cons k25 (Tab.cons k26 (Tab.cons k16 Tab.nil)))) : Tab _) _ (lk_mem' h)) (S := sg5) (fn := Try.f5) (c := bodyOf Try.f5) (ts := [6]) Try.func5 (by kernel_rfl) (by kernel_rfl) (by kernel_rfl) (by kernel_rfl) (by kernel_rfl) (by kernel_rfl) (by kernel_rfl) r5

theorem k5 : Contract Try.prog 5 sem5 := c5

theorem c28 : Contract Try.prog 28 sm28 :=
  contract_ofAM (C := cf28) (fun f sem h => (Tab.cons k60 Tab.nil : Tab _) _ (lk_mem' h)) (args := ag28) (alts := al28) (fn := Try.f28) (c := bodyOf Try.f28) (ts := [(4, some 24), (5, none)]) Try.func28 (by kernel_rfl) (by kernel_rfl) (by kernel_rfl) (by kernel_rfl) (by kernel_rfl) (by kernel_rfl) (by kernel_rfl) r28

theorem k28 : Contract Try.prog 28 sem28 := c28

theorem c30 : Contract Try.prog 30 sm30 :=
  contract_ofAM (C := cf30) (fun f sem h => (Tab.cons k60 Tab.nil : Tab _) _ (lk_mem' h)) (args := ag30) (alts := al30) (fn := Try.f30) (c := bodyOf Try.f30) (ts := [(4, some 24), (5, none)]) Try.func30 (by kernel_rfl) (by kernel_rfl) (by kernel_rfl) (by kernel_rfl) (by kernel_rfl) (by kernel_rfl) (by kernel_rfl) r30

theorem k30 : Contract Try.prog 30 sem30 := c30

theorem c32 : Contract Try.prog 32 sm32 :=
  contract_ofAM (C := cf32) (fun f sem h => (Tab.cons k60 Tab.nil : Tab _) _ (lk_mem' h)) (args := ag32) (alts := al32) (fn := Try.f32) (c := bodyOf Try.f32) (ts := [(4, some 24), (5, none)]) Try.func32 (by kernel_rfl) (by kernel_rfl) (by kernel_rfl) (by kernel_rfl) (by kernel_rfl) (by kernel_rfl) (by kernel_rfl) r32

theorem k32 : Contract Try.prog 32 sem32 := c32

theorem c33 : Contract Try.prog 33 sm33 :=
  contract_ofAM (C := cf33) (fun f sem h => (Tab.cons k60 Tab.nil : Tab _) _ (lk_mem' h)) (args := ag33) (alts := al33) (fn := Try.f33) (c := bodyOf Try.f33) (ts := [(4, some 24), (5, none)]) Try.func33 (by kernel_rfl) (by kernel_rfl) (by kernel_rfl) (by kernel_rfl) (by kernel_rfl) (by kernel_rfl) (by kernel_rfl) r33

theorem k33 : Contract Try.prog 33 sem33 := c33

theorem c34 : Contract Try.prog 34 sm34 :=
  contract_ofAM (C := cf34) (fun f sem h => (Tab.cons k69 Tab.nil : Tab _) _ (lk_mem' h)) (args := ag34) (alts := al34) (fn := Try.f34) (c := bodyOf Try.f34) (ts := [(4, some 24), (5, none)]) Try.func34 (by kernel_rfl) (by kernel_rfl) (by kernel_rfl) (by kernel_rfl) (by kernel_rfl) (by kernel_rfl) (by kernel_rfl) r34

theorem k34 : Contract Try.prog 34 sem34 := c34

theorem c6 : Contract Try.prog 6 sm6 :=
  contract_ofM (C := cf6) (fun f sem h => (Tab.cons k27 (Tab.cons k28 (Tab.cons k29 (Tab.cons k30 (Tab.cons k31 (Tab.cons k32 (Tab.cons k33 (Tab.cons k34 (Tab.cons k35 (Tab.cons k36 (Tab.cons k16 Tab.nil)))))))))) : Tab _) _ (lk_mem' h)) (S := sg6) (fn := Try.f6) (c := bodyOf Try.f6) (ts := [4]) Try.func6 (by kernel_rfl) (by kernel_rfl) (by kernel_rfl) (by kernel_rfl) (by kernel_rfl) (by kernel_rfl) (by kernel_rfl) r6

theorem k6 : Contract Try.prog 6 sem6 := c6

theorem c37 : Contract Try.prog 37 sm37 :=
  contract_ofAM (C := cf37) (fun f sem h => (Tab.cons k13 (Tab.cons k14 (Tab.cons k72 (Tab.cons k12 Tab.nil))) : Tab _) _ (lk_mem' h)) (args := ag37) (alts := al37) (fn := Try.f37) (c := bodyOf Try.f37) (ts := [(2, some 24), (3, none)]) Try.func37 (by kernel_rfl) (by kernel_rfl) (by kernel_rfl) (by kernel_rfl) (by kernel_rfl) (by kernel_rfl) (by kernel_rfl) r37

theorem k37 : Contract Try.prog 37 sem37 := c37

theorem c38 : Contract Try.prog 38 sm38 :=
  contract_ofAM (C := cf38) (fun f sem h => (Tab.cons k13 (Tab.cons k14 (Tab.cons k64 (Tab.cons k12 Tab.nil))) : Tab _) _ (lk_mem' h)) (args := ag38) (alts := al38) (fn := Try.f38) (c := bodyOf Try.f38) (ts := [(2, some 24), (3, none)]) Try.func38 (by kernel_rfl) (by kernel_rfl) (by kernel_rfl) (by kernel_rfl) (by kernel_rfl) (by kernel_rfl) (by kernel_rfl) r38

theorem k38 : Contract Try.prog 38 sem38 := c38

theorem c73 : Contract Try.prog 73 sm73 :=
  contract_ofAM (C := cf73) (fun f sem h => (Tab.cons k13 (Tab.cons k14 (Tab.cons k59 (Tab.cons k12 Tab.nil))) : Tab _) _ (lk_mem' h)) (args := ag73) (alts := al73) (fn := Try.f73) (c := bodyOf Try.f73) (ts := [(6, some 24), (7, none)]) Try.func73 (by kernel_rfl) (by kernel_rfl) (by kernel_rfl) (by kernel_rfl) (by kernel_rfl) (by kernel_rfl) (by kernel_rfl) r73

theorem c73a : Contract Try.prog 73 sm73a :=
  contract_ofAM (C := cf73a) (fun f sem h => (Tab.cons k13 (Tab.cons k14 (Tab.cons k57 (Tab.cons k12 Tab.nil))) : Tab _) _ (lk_mem' h)) (args := ag73a) (alts := al73a) (fn := Try.f73) (c := bodyOf Try.f73) (ts := [(6, some 24), (7, none)]) Try.func73 (by kernel_rfl) (by kernel_rfl) (by kernel_rfl) (by kernel_rfl) (by kernel_rfl) (by kernel_rfl) (by kernel_rfl) r73a

theorem k73 : Contract Try.prog 73 sem73 := contract_or c73 (c73a)

theorem c39 : Contract Try.prog 39 sm39 :=
  contract_ofAM (C := cf39) (fun f sem h => (Tab.cons k73 Tab.nil : Tab _) _ (lk_mem' h)) (args := ag39) (alts := al39) (fn := Try.f39) (c := bodyOf Try.f39) (ts := [(4, some 24), (5, none)]) Try.func39 (by kernel_rfl) (by kernel_rfl) (by kernel_rfl) (by kernel_rfl) (by kernel_rfl) (by kernel_rfl) (by kernel_rfl) r39

theorem k39 : Contract Try.prog 39 sem39 := c39

theorem c40 : Contract Try.prog 40 sm40 :=
  contract_ofAM (C := cf40) (fun f sem h => (Tab.cons k73 Tab.nil : Tab _) _ (lk_mem' h)) (args := ag40) (alts := al40) (fn := Try.f40) (c := bodyOf Try.f40) (ts := [(4, some 24), (5, none)]) Try.func40 (by kernel_rfl) (by kernel_rfl) (by kernel_rfl) (by kernel_rfl) (by kernel_rfl) (by kernel_rfl) (by kernel_rfl) r40

theorem k40 : Contract Try.prog 40 sem40 := c40

theorem c41 : Contract Try.prog 41 sm41 :=
  contract_ofAM (C := cf41) (fun f sem h => (Tab.cons k13 (Tab.cons k14 (Tab.cons k12 Tab.nil)) : Tab _) _ (lk_mem' h)) (args := ag41) (alts := al41) (fn := Try.f41) (c := bodyOf Try.f41) (ts := [(4, some 24), (5, none)]) Try.func41 (by kernel_rfl) (by kernel_rfl) (by kernel_rfl) (by kernel_rfl) (by kernel_rfl) (by kernel_rfl) (by kernel_rfl) r41

theorem k41 : Contract Try.prog 41 sem41 := c41

theorem c42 : Contract Try.prog 42 sm42 :=
  contract_ofAM (C := cf42) (fun f sem h => (Tab.cons k10 (Tab.cons k17 (Tab.cons k18 Tab.nil)) : Tab _) _ (lk_mem' h)) (args := ag42) (alts := al42) (fn := Try.f42) (c := bodyOf Try.f42) (ts := [(6, some 24), (7, none)]) Try.func42 (by kernel_rfl) (by kernel_rfl) (by kernel_rfl) (by kernel_rfl) (by kernel_rfl) (by kernel_rfl) (by kernel_rfl) r42

theorem k42 : Contract Try.prog 42 sem42 := c42

theorem c43 : Contract Try.prog 43 sm43 :=
  contract_ofAM (C := cf43) (fun f sem h => (Tab.cons k51 (Tab.cons k54 (Tab.cons k59 (Tab.cons k12 Tab.nil))) : Tab _) _ (lk_mem' h)) (args := ag43) (alts := al43) (fn := Try.f43) (c := bodyOf Try.f43) (ts := [(4, some 24), (5, none)]) Try.func43 (by kernel_rfl) (by kernel_rfl) (by kernel_rfl) (by kernel_rfl) (by kernel_rfl) (by kernel_rfl) (by kernel_rfl) r43

theorem k43 : Contract Try.prog 43 sem43 := c43

theorem c44 : Contract Try.prog 44 sm44 :=
  contract_ofAM (C := cf44) (fun f sem h => (Tab.cons k18 Tab.nil : Tab _) _ (lk_mem' h)) (args := ag44) (alts := al44) (fn := Try.f44) (c := bodyOf Try.f44) (ts := [(4, some 24), (5, none)]) Try.func44 (by kernel_rfl) (by kernel_rfl) (by kernel_rfl) (by kernel_rfl) (by kernel_rfl) (by kernel_rfl) (by kernel_rfl) r44

theorem k44 : Contract Try.prog 44 sem44 := c44

theorem c7 : Contract Try.prog 7 sm7 :=
  contract_ofM (C := cf7) (fun f sem h => (Tab.cons k37 (Tab.cons k38 (Tab.cons k39 (Tab.cons k40 (Tab.cons k41 (Tab.cons k42 (Tab.cons k43 (Tab.cons k44 (Tab.cons k16 Tab.nil)))))))) : Tab _) _ (lk_mem' h)) (S := sg7) (fn := Try.f7) (c := bodyOf Try.f7) (ts := [4]) Try.func7 (by kernel_rfl) (by kernel_rfl) (by kernel_rfl) (by kernel_rfl) (by kernel_rfl) (by kernel_rfl) (by kernel_rfl) r7

theorem k7 : Contract Try.prog 7 sem7 := c7

theorem c103 : Contract Try.prog 103 sm103 := index_contract Try.func103 (by kernel_rfl) (by kernel_rfl) (by kernel_rfl) (by kernel_rfl)

theorem k103 : Contract Try.prog 103 sem103 := c103

theorem c98 : Contract Try.prog 98 sm98 :=
  contract_ofM (C := cf98) (fun f sem h => (Tab.cons k103 Tab.nil : Tab _) _ (lk_mem' h)) (S := sg98) (fn := Try.f98) (c := bodyOf Try.f98) (ts := [4]) Try.func98 (by kernel_rfl) (by kernel_rfl) (by kernel_rfl) (by kernel_rfl) (by kernel_rfl) (by kernel_rfl) (by kernel_rfl) r98

theorem k98 : Contract Try.prog 98 sem98 := c98

theorem c93 : Contract Try.prog 93 sm93 :=
  contract_ofM (C := cf93) (fun f sem h => (Tab.cons k98 Tab.nil : Tab _) _ (lk_mem' h)) (S := sg93) (fn := Try.f93) (c := bodyOf Try.f93) (ts := [4]) Try.func93 (by kernel_rfl) (by kernel_rfl) (by kernel_rfl) (by kernel_rfl) (by kernel_rfl) (by kernel_rfl) (by kernel_rfl) r93

theorem k93 : Contract Try.prog 93 sem93 := c93

theorem c82 : Contract Try.prog 82 sm82 :=
  contract_ofM (C := cf82) (fun f sem h => (Tab.cons k93 Tab.nil : Tab _) _ (lk_mem' h)) (S := sg82) (fn := Try.f82) (c := bodyOf Try.f82) (ts := [4, 5, 6]) Try.func82 (by kernel_rfl) (by kernel_rfl) (by kernel_rfl) (by kernel_rfl) (by kernel_rfl) (by kernel_rfl) (by kernel_rfl) r82

theorem k82 : Contract Try.prog 82 sem82 := c82

theorem c74 : Contract Try.prog 74 sm74 :=
  contract_ofM (C := cf74) (fun f sem h => (Tab.cons k82 Tab.nil : Tab _) _ (lk_mem' h)) (S := sg74) (fn := Try.f74) (c := bodyOf Try.f74) (ts := [4, 5, 6]) Try.func74 (by kernel_rfl) (by kernel_rfl) (by kernel_rfl) (by kernel_rfl) (by kernel_rfl) (by kernel_rfl) (by kernel_rfl) r74

theorem k74 : Contract Try.prog 74 sem74 := c74

theorem c84 : Contract Try.prog 84 sm84 :=
  contract_ofM (C := cf84) (fun f sem h => (Tab.nil : Tab _) _ (lk_mem' h)) (S := sg84) (fn := Try.f84) (c := bodyOf Try.f84) (ts := [2]) Try.func84 (by kernel_rfl) (by kernel_rfl) (by kernel_rfl) (by kernel_rfl) (by kernel_rfl) (by kernel_rfl) (by kernel_rfl) r84

theorem k84 : Contract Try.prog 84 sem84 := c84

theorem c95 : Contract Try.prog 95 sm95 :=
  contract_ofM (C := cf95) (fun f sem h => (Tab.nil : Tab _) _ (lk_mem' h)) (S := sg95) (fn := Try.f95) (c := bodyOf Try.f95) (ts := [4, 5]) Try.func95 (by kernel_rfl) (by kernel_rfl) (by kernel_rfl) (by kernel_rfl) (by kernel_rfl) (by kernel_rfl) (by kernel_rfl) r95

theorem k95 : Contract Try.prog 95 sem95 := c95

theorem c86 : Contract Try.prog 86 sm86 :=
  contract_ofAM (C := cf86) (fun f sem h => (Tab.cons k95 Tab.nil : Tab _) _ (lk_mem' h)) (args := ag86) (alts := al86) (fn := Try.f86) (c := bodyOf Try.f86) (ts := [(4, some 31)]) Try.func86 (by kernel_rfl) (by kernel_rfl) (by kernel_rfl) (by kernel_rfl) (by kernel_rfl) (by kernel_rfl) (by kernel_rfl) r86

theorem k86 : Contract Try.prog 86 sem86 := c86

theorem c75 : Contract Try.prog 75 sm75 :=
  contract_ofAM (C := cf75) (fun f sem h => (Tab.cons k83 (Tab.cons k84 (Tab.cons k72 (Tab.cons k85 (Tab.cons k66 (Tab.cons k86 (Tab.cons k62 Tab.nil)))))) : Tab _) _ (lk_mem' h)) (args := ag75) (alts := al75) (fn := Try.f75) (c := bodyOf Try.f75) (ts := [(4, some 31), (5, none)]) Try.func75 (by kernel_rfl) (by kernel_rfl) (by kernel_rfl) (by kernel_rfl) (by kernel_rfl) (by kernel_rfl) (by kernel_rfl) r75

theorem k75 : Contract Try.prog 75 sem75 := c75

theorem c45 : Contract Try.prog 45 sm45 :=
  contract_ofAM (C := cf45) (fun f sem h => (Tab.cons k74 (Tab.cons k75 (Tab.cons k51 (Tab.cons k11 Tab.nil))) : Tab _) _ (lk_mem' h)) (args := ag45) (alts := al45) (fn := Try.f45) (c := bodyOf Try.f45) (ts := [(2, some 24), (3, none)]) Try.func45 (by kernel_rfl) (by kernel_rfl) (by kernel_rfl) (by kernel_rfl) (by kernel_rfl) (by kernel_rfl) (by kernel_rfl) r45

theorem k45 : Contract Try.prog 45 sem45 := c45

theorem c88 : Contract Try.prog 88 sm88 :=
  contract_ofAM (C := cf88) (fun f sem h => (Tab.nil : Tab _) _ (lk_mem' h)) (args := ag88) (alts := al88) (fn := Try.f88) (c := bodyOf Try.f88) (ts := [(2, some 61)]) Try.func88 (by kernel_rfl) (by kernel_rfl) (by kernel_rfl) (by kernel_rfl) (by kernel_rfl) (by kernel_rfl) (by kernel_rfl) r88

theorem k88 : Contract Try.prog 88 sem88 := c88

theorem c89 : Contract Try.prog 89 sm89 :=
  contract_ofAM (C := cf89) (fun f sem h => (Tab.cons k50 Tab.nil : Tab _) _ (lk_mem' h)) (args := ag89) (alts := al89) (fn := Try.f89) (c := bodyOf Try.f89) (ts := [(2, some 61)]) Try.func89 (by kernel_rfl) (by kernel_rfl) (by kernel_rfl) (by kernel_rfl) (by kernel_rfl) (by kernel_rfl) (by kernel_rfl) r89

theorem k89 : Contract Try.prog 89 sem89 := c89

theorem c96 : Contract Try.prog 96 sm96 :=
  contract_ofAM (C := cf96) (fun f sem h => (Tab.nil : Tab _) _ (lk_mem' h)) (args := ag96) (alts := al96) (fn := Try.f96) (c := bodyOf Try.f96) (ts := [(4, some 61)]) Try.func96 (by kernel_rfl) (by kernel_rfl) (by kernel_rfl) (by kernel_rfl) (by kernel_rfl) (by kernel_rfl) (by kernel_rfl) r96

theorem k96 : Contract Try.prog 96 sem96 := c96

theorem c90 : Contract Try.prog 90 sm90 :=
  contract_ofM (C := cf90) (fun f sem h => (Tab.nil : Tab _) _ (lk_mem' h)) (S := sg90) (fn := Try.f90) (c := bodyOf Try.f90) (ts := [4]) Try.func90 (by kernel_rfl) (by kernel_rfl) (by kernel_rfl) (by kernel_rfl) (by kernel_rfl) (by kernel_rfl) (by kernel_rfl) r90

theorem k90 : Contract Try.prog 90 sem90 := c90

theorem c91 : Contract Try.prog 91 sm91 :=
  contract_ofAM (C := cf91) (fun f sem h => (Tab.nil : Tab _) _ (lk_mem' h)) (args := ag91) (alts := al91) (fn := Try.f91) (c := bodyOf Try.f91) (ts := [(6, some 61), (7, none)]) Try.func91 (by kernel_rfl) (by kernel_rfl) (by kernel_rfl) (by kernel_rfl) (by kernel_rfl) (by kernel_rfl) (by kernel_rfl) r91

theorem k91 : Contract Try.prog 91 sem91 := c91

theorem c97 : Contract Try.prog 97 sm97 :=
  contract_ofAM (C := cf97) (fun f sem h => (Tab.cons k88 (Tab.cons k91 (Tab.cons k90 Tab.nil)) : Tab _) _ (lk_mem' h)) (args := ag97) (alts := al97) (fn := Try.f97) (c := bodyOf Try.f97) (ts := [(4, some 61), (5, none)]) Try.func97 (by kernel_rfl) (by kernel_rfl) (by kernel_rfl) (by kernel_rfl) (by kernel_rfl) (by kernel_rfl) (by kernel_rfl) r97

theorem k97 : Contract Try.prog 97 sem97 := c97

theorem c87 : Contract Try.prog 87 sm87 :=
  contract_ofAM (C := cf87) (fun f sem h => (Tab.cons k96 (Tab.cons k90 (Tab.cons k97 Tab.nil)) : Tab _) _ (lk_mem' h)) (args := ag87) (alts := al87) (fn := Try.f87) (c := bodyOf Try.f87) (ts := [(4, some 61), (5, some 61)]) Try.func87 (by kernel_rfl) (by kernel_rfl) (by kernel_rfl) (by kernel_rfl) (by kernel_rfl) (by kernel_rfl) (by kernel_rfl) r87

theorem k87 : Contract Try.prog 87 sem87 := c87

theorem c92 : Contract Try.prog 92 sm92 :=
  contract_ofAM (C := cf92) (fun f sem h => (Tab.cons k96 (Tab.cons k91 Tab.nil) : Tab _) _ (lk_mem' h)) (args := ag92) (alts := al92) (fn := Try.f92) (c := bodyOf Try.f92) (ts := [(4, some 61)]) Try.func92 (by kernel_rfl) (by kernel_rfl) (by kernel_rfl) (by kernel_rfl) (by kernel_rfl) (by kernel_rfl) (by kernel_rfl) r92

theorem k92 : Contract Try.prog 92 sem92 := c92

theorem c76 : Contract Try.prog 76 sm76 :=
  contract_ofAM (C := cf76) (fun f sem h => (Tab.cons k88 (Tab.cons k89 (Tab.cons k87 (Tab.cons k90 (Tab.cons k92 (Tab.cons k91 Tab.nil))))) : Tab _) _ (lk_mem' h)) (args := ag76) (alts := al76) (fn := Try.f76) (c := bodyOf Try.f76) (ts := [(4, some 61), (5, none)]) Try.func76 (by kernel_rfl) (by kernel_rfl) (by kernel_rfl) (by kernel_rfl) (by kernel_rfl) (by kernel_rfl) (by kernel_rfl) r76

theorem k76 : Contract Try.prog 76 sem76 := c76

theorem c46 : Contract Try.prog 46 sm46 :=
  contract_ofAM (C := cf46) (fun f sem h => (Tab.cons k76 (Tab.cons k56 (Tab.cons k49 Tab.nil)) : Tab _) _ (lk_mem' h)) (args := ag46) (alts := al46) (fn := Try.f46) (c := bodyOf Try.f46) (ts := [(2, some 24), (3, none)]) Try.func46 (by kernel_rfl) (by kernel_rfl) (by kernel_rfl) (by kernel_rfl) (by kernel_rfl) (by kernel_rfl) (by kernel_rfl) r46

theorem k46 : Contract Try.prog 46 sem46 := c46

theorem c78 : Contract Try.prog 78 sm78 :=
  contract_ofM (C := cf78) (fun f sem h => (Tab.cons k49 (Tab.cons k89 (Tab.cons k87 (Tab.cons k56 Tab.nil))) : Tab _) _ (lk_mem' h)) (S := sg78) (fn := Try.f78) (c := bodyOf Try.f78) (ts := [4]) Try.func78 (by kernel_rfl) (by kernel_rfl) (by kernel_rfl) (by kernel_rfl) (by kernel_rfl) (by kernel_rfl) (by kernel_rfl) r78

theorem k78 : Contract Try.prog 78 sem78 := c78

theorem c48 : Contract Try.prog 48 sm48 :=
  contract_ofM (C := cf48) (fun f sem h => (Tab.cons k10 (Tab.cons k50 (Tab.cons k78 Tab.nil)) : Tab _) _ (lk_mem' h)) (S := sg48) (fn := Try.f48) (c := bodyOf Try.f48) (ts := [2]) Try.func48 (by kernel_rfl) (by kernel_rfl) (by kernel_rfl) (by kernel_rfl) (by kernel_rfl) (by kernel_rfl) (by kernel_rfl) r48

theorem k48 : Contract Try.prog 48 sem48 := c48

theorem c8 : Contract Try.prog 8 sm8 :=
  contract_ofM (C := cf8) (fun f sem h => (Tab.cons k16 (Tab.cons k45 (Tab.cons k46 (Tab.cons k47 (Tab.cons k48 Tab.nil)))) : Tab _) _ (lk_mem' h)) (S := sg8) (fn := Try.f8) (c := bodyOf Try.f8) (ts := [4]) Try.func8 (by kernel_rfl) (by kernel_rfl) (by kernel_rfl) (by kernel_rfl) (by kernel_rfl) (by kernel_rfl) (by kernel_rfl) r8

theorem k8 : Contract Try.prog 8 sem8 := c8

theorem c9 : Contract Try.prog 9 sm9 :=
  contract_ofM (C := cf9) (fun f sem h => (Tab.cons k13 (Tab.cons k47 (Tab.cons k16 (Tab.cons k45 (Tab.cons k50 (Tab.cons k49 (Tab.cons k19 (Tab.cons k21 (Tab.cons k40 (Tab.cons k41 (Tab.cons k27 (Tab.cons k28 (Tab.cons k29 (Tab.cons k35 (Tab.cons k14 Tab.nil)))))))))))))) : Tab _) _ (lk_mem' h)) (S := sg9) (fn := Try.f9) (c := bodyOf Try.f9) (ts := [6]) Try.func9 (by kernel_rfl) (by kernel_rfl) (by kernel_rfl) (by kernel_rfl) (by kernel_rfl) (by kernel_rfl) (by kernel_rfl) r9

theorem k9 : Contract Try.prog 9 sem9 := c9

end Go.Proofs.Ytipdifiahmgciaa
