/- The functions of this seat, and the laws as plain Lean. -/
import Derived.Test.YtkpiocglghnnhaaDoorProg
import Derived.Test.YtkpiocglghnnhaaDoorQ6

set_option linter.unusedSimpArgs false
set_option linter.unusedVariables false

namespace Go.Proofs.YtkpiocglghnnhaaDoor
open Go Go.Pv Go.Proofs Go.L
set_option maxRecDepth 100000

noncomputable def bodyOf (f : Func) : Code := match f.body with | some c => c | none => .skip
noncomputable def cf (tab : List (Nat × CSem)) (nt nob : Nat) (ann : List (Nat × Shape)) : Cfg := ⟨Tryd.prog, fun f => lk f tab, nt, nob, fun n => lk n ann, false⟩
noncomputable def cfs (tab : List (Nat × CSem)) (nt nob : Nat) (ann : List (Nat × Shape)) : Cfg := ⟨Tryd.prog, fun f => lk f tab, nt, nob, fun n => lk n ann, true⟩
def Tab (tab : List (Nat × CSem)) : Prop := ∀ q ∈ tab, Contract Tryd.prog q.1 q.2
theorem Tab.nil : Tab [] := fun q h => by cases h
theorem Tab.cons {f : Nat} {sem : CSem} {l : List (Nat × CSem)} (h : Contract Tryd.prog f sem) (t : Tab l) : Tab ((f, sem) :: l) := fun q hq => by
 rcases List.mem_cons.1 hq with rfl | hq
 ·exact h
 ·exact t q hq

noncomputable def sg61 : Sig := ⟨[.val .str, .val (.int .u8)], [.val .str], []⟩
noncomputable def sm61 : CSem := mkSem sg61 fun x => strings_trimLeftByte x.1 x.2.1
noncomputable def cf61 : Cfg := cfs [] 17 0 [(0, ⟨[(0, .dat .str), (1, .dat (.int .u8))], []⟩)]

noncomputable def sem61 : CSem := sm61

noncomputable def ag62 : List AK := [.val .str]
noncomputable def al62 : List Alt := [([.val (.agg (.arr 256 .bool)), .val .bool], [])]
noncomputable def sm62 : CSem := mkSemA ag62 al62 fun x => strings_makeASCIISet x.1
noncomputable def cf62 : Cfg := cfs [] 21 0 [(0, ⟨[(0, .dat .str), (2, .loc (nameOf 2 0) []), (4, .dat (.int .i64))], [((nameOf 2 0), (.agg (.arr 256 .bool)))]⟩)]

noncomputable def sem62 : CSem := sm62

noncomputable def sg85 : Sig := ⟨[.obj (.agg (.arr 256 .bool)), .val (.int .u8)], [.val .bool], [(.agg (.arr 256 .bool))]⟩
noncomputable def sm85 : CSem := mkSem sg85 fun x => strings_asciiSet_contains x.1 x.2.1
noncomputable def cf85 : Cfg := cfs [] 10 1 []

noncomputable def sem85 : CSem := sm85

noncomputable def sg63 : Sig := ⟨[.val .str, .obj (.agg (.arr 256 .bool))], [.val .str], [(.agg (.arr 256 .bool))]⟩
noncomputable def sm63 : CSem := mkSem sg63 fun x => strings_trimLeftASCII x.1 x.2.1
noncomputable def cf63 : Cfg := cfs [(85, sem85)] 16 1 [(0, ⟨[(0, .dat .str), (1, .loc (objName 0) [])], [((objName 0), (.agg (.arr 256 .bool)))]⟩)]

noncomputable def sem63 : CSem := sm63

noncomputable def sg104 : Sig := ⟨[.val .str], [.val (.int .i32), .val (.int .i64)], []⟩
noncomputable def sm104 : CSem := mkSem sg104 fun x => unicode_utf8_decodeRuneInStringSlow x.1
noncomputable def cf104 : Cfg := cfs [] 117 0 []

noncomputable def sem104 : CSem := sm104

noncomputable def sg86 : Sig := ⟨[.val .str], [.val (.int .i32), .val (.int .i64)], []⟩
noncomputable def sm86 : CSem := mkSem sg86 fun x => unicode_utf8_DecodeRuneInString x.1
noncomputable def cf86 : Cfg := cfs [(104, sem104)] 19 0 []

noncomputable def sem86 : CSem := sm86

noncomputable def sm111 : CSem := indexSem

noncomputable def sem111 : CSem := sm111

noncomputable def sg105 : Sig := ⟨[.val .str, .val (.int .u8)], [.val (.int .i64)], []⟩
noncomputable def sm105 : CSem := mkSem sg105 fun x => internal_stringslite_IndexByte x.1 x.2.1
noncomputable def cf105 : Cfg := cf [(111, sem111)] 8 0 []

noncomputable def sem105 : CSem := sm105

noncomputable def sg88 : Sig := ⟨[.val .str, .val (.int .u8)], [.val (.int .i64)], []⟩
noncomputable def sm88 : CSem := mkSem sg88 fun x => strings_IndexByte x.1 x.2.1
noncomputable def cf88 : Cfg := cfs [(105, sem105)] 8 0 []

noncomputable def sem88 : CSem := sm88

noncomputable def sg89 : Sig := ⟨[.val (.int .i32)], [.val .bool], []⟩
noncomputable def sm89 : CSem := mkSem sg89 fun x => unicode_utf8_ValidRune x.1
noncomputable def cf89 : Cfg := cfs [] 17 0 []

noncomputable def sem89 : CSem := sm89

noncomputable def sg67 : Sig := ⟨[.val .str, .val (.int .i32)], [.val (.int .i64)], []⟩
noncomputable def sm67 : CSem := mkSem sg67 fun x => strings_IndexRune x.1 x.2.1
noncomputable def cf67 : Cfg := cfs [(88, sem88), (89, sem89)] 187 0 [(9, ⟨[(175, .own .iter false)], []⟩), (3, ⟨[(0, .dat .str), (7, .dat .str), (8, .dat (.int .i64)), (9, .dat (.int .i64)), (12, .dat (.int .i64))], []⟩), (1, ⟨[(0, .dat .str), (7, .dat .str), (8, .dat (.int .i64)), (9, .dat (.int .i64))], []⟩)]

noncomputable def sem67 : CSem := sm67

noncomputable def sg38 : Sig := ⟨[.val .str, .val (.int .i32)], [.val .bool], []⟩
noncomputable def sm38 : CSem := mkSem sg38 fun x => strings_ContainsRune x.1 x.2.1
noncomputable def cf38 : Cfg := cfs [(67, sem67)] 9 0 []

noncomputable def sem38 : CSem := sm38

noncomputable def sg64 : Sig := ⟨[.val .str, .val .str], [.val .str], []⟩
noncomputable def sm64 : CSem := mkSem sg64 fun x => strings_trimLeftUnicode x.1 x.2.1
noncomputable def cf64 : Cfg := cfs [(86, sem86), (38, sem38)] 23 0 [(0, ⟨[(0, .dat .str), (1, .dat .str)], []⟩)]

noncomputable def sem64 : CSem := sm64

noncomputable def sg33 : Sig := ⟨[.val .str, .val .str], [.val .str], []⟩
noncomputable def sm33 : CSem := mkSem sg33 fun x => strings_TrimLeft x.1 x.2.1
noncomputable def cf33 : Cfg := cfs [(61, sem61), (62, sem62), (63, sem63), (64, sem64)] 37 0 []

noncomputable def sem33 : CSem := sm33

noncomputable def sg65 : Sig := ⟨[.val .str, .val .str], [.val .bool], []⟩
noncomputable def sm65 : CSem := mkSem sg65 fun x => internal_stringslite_HasPrefix x.1 x.2.1
noncomputable def cf65 : Cfg := cfs [] 18 0 []

noncomputable def sem65 : CSem := sm65

noncomputable def sg34 : Sig := ⟨[.val .str, .val .str], [.val .bool], []⟩
noncomputable def sm34 : CSem := mkSem sg34 fun x => strings_HasPrefix x.1 x.2.1
noncomputable def cf34 : Cfg := cfs [(65, sem65)] 8 0 []

noncomputable def sem34 : CSem := sm34

noncomputable def sg87 : Sig := ⟨[.val .str, .val .str], [.val (.int .i64)], []⟩
noncomputable def sm87 : CSem := mkSem sg87 fun x => internal_stringslite_Index x.1 x.2.1
noncomputable def cf87 : Cfg := cf [(105, sem105)] 143 0 []

noncomputable def sem87 : CSem := sm87

noncomputable def sg66 : Sig := ⟨[.val .str, .val .str], [.val .str, .val .str, .val .bool], []⟩
noncomputable def sm66 : CSem := mkSem sg66 fun x => internal_stringslite_Cut x.1 x.2.1
noncomputable def cf66 : Cfg := cf [(87, sem87)] 23 0 []

noncomputable def sem66 : CSem := sm66

noncomputable def sg35 : Sig := ⟨[.val .str, .val .str], [.val .str, .val .str, .val .bool], []⟩
noncomputable def sm35 : CSem := mkSem sg35 fun x => strings_Cut x.1 x.2.1
noncomputable def cf35 : Cfg := cf [(66, sem66)] 13 0 []

noncomputable def sem35 : CSem := sm35

noncomputable def sg19 : Sig := ⟨[.val .str], [.val (.int .i64)], []⟩
noncomputable def sm19 : CSem := mkSem sg19 fun x => lex_skip x.1
noncomputable def cf19 : Cfg := cfs [(33, sem33), (34, sem34), (35, sem35)] 21 0 [(0, ⟨[(0, .dat .str), (3, .dat .str)], []⟩)]

noncomputable def sem19 : CSem := sm19

noncomputable def sg37 : Sig := ⟨[.val .str, .val (.int .i64)], [.val .str], []⟩
noncomputable def sm37 : CSem := mkSem sg37 fun x => name_Clip x.1 x.2.1
noncomputable def cf37 : Cfg := cfs [] 19 0 [(0, ⟨[(0, .dat .str), (1, .dat (.int .i64)), (7, .own .iter false)], []⟩)]

noncomputable def sem37 : CSem := sm37

noncomputable def sg36 : Sig := ⟨[.val .str], [.own (.own (.int .i32))], []⟩
noncomputable def sm36 : CSem := mkSem sg36 fun x => name_Runes x.1
noncomputable def cf36 : Cfg := cfs [] 16 0 [(0, ⟨[(3, .own (.int .i32) false), (7, .own .iter false)], []⟩)]

noncomputable def sem36 : CSem := sm36

noncomputable def sg68 : Sig := ⟨[.val (.int .i32), .val (.int .i32), .val (.int .i32)], [.val .bool], []⟩
noncomputable def sm68 : CSem := mkSem sg68 fun x => name_between x.1 x.2.1 x.2.2.1
noncomputable def cf68 : Cfg := cf [] 15 0 []

noncomputable def sem68 : CSem := sm68

noncomputable def sg39 : Sig := ⟨[.val (.int .i32)], [.val .bool], []⟩
noncomputable def sm39 : CSem := mkSem sg39 fun x => name_Letter x.1
noncomputable def cf39 : Cfg := cf [(68, sem68)] 35 0 []

noncomputable def sem39 : CSem := sm39

noncomputable def sg43 : Sig := ⟨[.val (.int .i32)], [.val .bool], []⟩
noncomputable def sm43 : CSem := mkSem sg43 fun x => name_Digit x.1
noncomputable def cf43 : Cfg := cf [(68, sem68)] 5 0 []

noncomputable def sem43 : CSem := sm43

noncomputable def sg41 : Sig := ⟨[.val (.int .i32)], [.val .bool], []⟩
noncomputable def sm41 : CSem := mkSem sg41 fun x => lex_inner x.1
noncomputable def cf41 : Cfg := cfs [(39, sem39), (43, sem43)] 17 0 []

noncomputable def sem41 : CSem := sm41

noncomputable def sg44 : Sig := ⟨[.val (.int .i32)], [.val .bool], []⟩
noncomputable def sm44 : CSem := mkSem sg44 fun x => lex_one_1 x.1
noncomputable def cf44 : Cfg := cfs [(39, sem39), (43, sem43)] 13 0 []

noncomputable def sem44 : CSem := sm44

noncomputable def sg40 : Sig := ⟨[.val .str, .fnc 41], [.val (.int .i64)], []⟩
noncomputable def sm40 : CSem := mkSem sg40 fun x => lex_long_8cc x.1
noncomputable def cf40 : Cfg := cfs [(41, sem41)] 20 0 [(0, ⟨[(0, .dat .str), (1, .fn 41 []), (8, .own .iter false)], []⟩)]

noncomputable def sg40a : Sig := ⟨[.val .str, .fnc 44], [.val (.int .i64)], []⟩
noncomputable def sm40a : CSem := mkSem sg40a fun x => lex_long_b62 x.1
noncomputable def cf40a : Cfg := cfs [(44, sem44)] 20 0 [(0, ⟨[(0, .dat .str), (1, .fn 44 []), (8, .own .iter false)], []⟩)]

noncomputable def sem40 : CSem := orSem sm40 (sm40a)

noncomputable def sg42 : Sig := ⟨[.val .str], [.val .bool], []⟩
noncomputable def sm42 : CSem := mkSem sg42 fun x => name_May x.1
noncomputable def cf42 : Cfg := cf [(39, sem39), (43, sem43)] 39 0 [(0, ⟨[(3, .dat (.int .i64)), (7, .own .iter false)], []⟩)]

noncomputable def sem42 : CSem := sm42

noncomputable def sg92 : Sig := ⟨[.val .str, .val .str], [.val (.int .i64)], []⟩
noncomputable def sm92 : CSem := mkSem sg92 fun x => strings_Index x.1 x.2.1
noncomputable def cf92 : Cfg := cfs [(87, sem87)] 8 0 []

noncomputable def sem92 : CSem := sm92

noncomputable def sg69 : Sig := ⟨[.val .str, .val .str], [.val .bool], []⟩
noncomputable def sm69 : CSem := mkSem sg69 fun x => strings_Contains x.1 x.2.1
noncomputable def cf69 : Cfg := cfs [(92, sem92)] 9 0 []

noncomputable def sem69 : CSem := sm69

noncomputable def sg77 : Sig := ⟨[.val (.int .i64)], [.val .bool], []⟩
noncomputable def sm77 : CSem := mkSem sg77 fun x => word_based x.1
noncomputable def cf77 : Cfg := cf [] 9 0 []

noncomputable def sem77 : CSem := sm77

noncomputable def sg95 : Sig := ⟨[.val (.int .u8)], [.val (.int .i64)], []⟩
noncomputable def sm95 : CSem := mkSem sg95 fun x => word_digit x.1
noncomputable def cf95 : Cfg := cf [] 35 0 []

noncomputable def sem95 : CSem := sm95

noncomputable def ag96 : List AK := [.val (.agg (.pair (.int .u64) (.pair (.int .u64) .unit)))]
noncomputable def al96 : List Alt := [([.val (.agg (.pair (.int .u64) (.pair (.int .u64) .unit)))], [])]
noncomputable def sm96 : CSem := mkSemA ag96 al96 fun x => word_Not x.1
noncomputable def cf96 : Cfg := cf [] 10 0 []

noncomputable def sem96 : CSem := sm96

noncomputable def sg101 : Sig := ⟨[.val (.int .u64)], [.val (.int .i64)], []⟩
noncomputable def sm101 : CSem := mkSem sg101 fun x => bits_Len64 x.1
noncomputable def cf101 : Cfg := cf [] 25 0 []

noncomputable def sem101 : CSem := sm101

noncomputable def sg110 : Sig := ⟨[.val (.int .u64)], [.val (.int .i64)], []⟩
noncomputable def sm110 : CSem := mkSem sg110 fun x => bits_LeadingZeros64 x.1
noncomputable def cf110 : Cfg := cf [(101, sem101)] 6 0 []

noncomputable def sem110 : CSem := sm110

noncomputable def sg100 : Sig := ⟨[.val (.int .u64), .val (.int .u64), .val (.int .u64)], [.val (.int .u64), .val (.int .u64)], []⟩
noncomputable def sm100 : CSem := mkSem sg100 fun x => bits_Div64 x.1 x.2.1 x.2.2.1
noncomputable def cf100 : Cfg := cf [(110, sem110)] 135 0 [(2, ⟨[(2, .dat (.int .u64)), (8, .dat (.int .u64)), (9, .dat (.int .u64)), (10, .dat (.int .u64)), (14, .dat (.int .u64)), (15, .dat (.int .u64)), (16, .dat (.int .u64)), (17, .dat (.int .u64)), (18, .dat (.int .u64))], []⟩), (0, ⟨[(2, .dat (.int .u64)), (8, .dat (.int .u64)), (9, .dat (.int .u64)), (10, .dat (.int .u64)), (11, .dat (.int .u64)), (13, .dat (.int .u64)), (14, .dat (.int .u64)), (15, .dat (.int .u64)), (16, .dat (.int .u64))], []⟩)]

noncomputable def sem100 : CSem := sm100

noncomputable def ag78 : List AK := [.val (.agg (.pair (.int .u64) (.pair (.int .u64) .unit))), .val (.int .u64)]
noncomputable def al78 : List Alt := [([.val (.agg (.pair (.int .u64) (.pair (.int .u64) .unit))), .val (.int .u64), .val .bool], [])]
noncomputable def sm78 : CSem := mkSemA ag78 al78 fun x => word_Div x.1 x.2.1
noncomputable def cf78 : Cfg := cf [(100, sem100)] 33 0 []

noncomputable def sem78 : CSem := sm78

noncomputable def sm113 : CSem := sub64Sem

noncomputable def sem113 : CSem := sm113

noncomputable def ag107 : List AK := [.val (.agg (.pair (.int .u64) (.pair (.int .u64) .unit))), .val (.agg (.pair (.int .u64) (.pair (.int .u64) .unit)))]
noncomputable def al107 : List Alt := [([.val (.agg (.pair (.int .u64) (.pair (.int .u64) .unit))), .val .bool], [])]
noncomputable def sm107 : CSem := mkSemA ag107 al107 fun x => word_Sub x.1 x.2.1
noncomputable def cf107 : Cfg := cf [(113, sem113)] 32 0 []

noncomputable def sem107 : CSem := sm107

noncomputable def sg97 : Sig := ⟨[.val (.agg (.pair (.int .u64) (.pair (.int .u64) .unit))), .val (.agg (.pair (.int .u64) (.pair (.int .u64) .unit)))], [.val (.int .i64)], []⟩
noncomputable def sm97 : CSem := mkSem sg97 fun x => word_Cmp x.1 x.2.1
noncomputable def cf97 : Cfg := cf [(107, sem107)] 19 0 []

noncomputable def sem97 : CSem := sm97

noncomputable def sg109 : Sig := ⟨[.val (.int .u64), .val (.int .u64)], [.val (.int .u64), .val (.int .u64)], []⟩
noncomputable def sm109 : CSem := mkSem sg109 fun x => bits_Mul64 x.1 x.2.1
noncomputable def cf109 : Cfg := cf [] 51 0 []

noncomputable def sem109 : CSem := sm109

noncomputable def ag99 : List AK := [.val (.agg (.pair (.int .u64) (.pair (.int .u64) .unit))), .val (.agg (.pair (.int .u64) (.pair (.int .u64) .unit)))]
noncomputable def al99 : List Alt := [([.val (.agg (.pair (.int .u64) (.pair (.int .u64) .unit)))], [])]
noncomputable def sm99 : CSem := mkSemA ag99 al99 fun x => word_Mul x.1 x.2.1
noncomputable def cf99 : Cfg := cf [(109, sem109)] 30 0 []

noncomputable def sem99 : CSem := sm99

noncomputable def sm108 : CSem := add64Sem

noncomputable def sem108 : CSem := sm108

noncomputable def ag98 : List AK := [.val (.agg (.pair (.int .u64) (.pair (.int .u64) .unit))), .val (.agg (.pair (.int .u64) (.pair (.int .u64) .unit)))]
noncomputable def al98 : List Alt := [([.val (.agg (.pair (.int .u64) (.pair (.int .u64) .unit))), .val .bool], [])]
noncomputable def sm98 : CSem := mkSemA ag98 al98 fun x => word_Add x.1 x.2.1
noncomputable def cf98 : Cfg := cf [(108, sem108)] 32 0 []

noncomputable def sem98 : CSem := sm98

noncomputable def ag72 : List AK := [.val .str, .val (.int .i64)]
noncomputable def al72 : List Alt := [([.val (.agg (.pair (.int .u64) (.pair (.int .u64) .unit))), .val (.int .i64)], [])]
noncomputable def sm72 : CSem := mkSemA ag72 al72 fun x => word_Parse x.1 x.2.1
noncomputable def cf72 : Cfg := cf [(77, sem77), (95, sem95), (96, sem96), (78, sem78), (97, sem97), (99, sem99), (98, sem98)] 74 0 [(1, ⟨[(0, .dat .str), (1, .dat (.int .i64)), (4, .loc (nameOf 4 0) []), (6, .loc (nameOf 6 0) []), (7, .dat .bool), (25, .dat (.int .i64)), (26, .dat (.int .i64))], [((nameOf 4 0), (.agg (.pair (.int .u64) (.pair (.int .u64) .unit)))), ((nameOf 6 0), (.agg (.pair (.int .u64) (.pair (.int .u64) .unit))))]⟩)]

noncomputable def sem72 : CSem := sm72

noncomputable def sg81 : Sig := ⟨[.val (.int .i64)], [.val .bool], []⟩
noncomputable def sm81 : CSem := mkSem sg81 fun x => vec_width x.1
noncomputable def cf81 : Cfg := cf [] 9 0 []

noncomputable def sem81 : CSem := sm81

noncomputable def ag57 : List AK := [.val (.agg (.pair (.int .i64) (.pair (.int .u64) (.pair (.int .u64) .unit))))]
noncomputable def al57 : List Alt := [([.val (.agg (.pair (.int .u64) (.pair (.int .u64) .unit)))], [])]
noncomputable def sm57 : CSem := mkSemA ag57 al57 fun x => vec_Word x.1
noncomputable def cf57 : Cfg := cf [] 8 0 []

noncomputable def sem57 : CSem := sm57

noncomputable def sg82 : Sig := ⟨[.val (.agg (.pair (.int .u64) (.pair (.int .u64) .unit)))], [.val (.int .i64)], []⟩
noncomputable def sm82 : CSem := mkSem sg82 fun x => word_Len x.1
noncomputable def cf82 : Cfg := cf [(101, sem101)] 13 0 []

noncomputable def sem82 : CSem := sm82

noncomputable def sg56 : Sig := ⟨[.val (.agg (.pair (.int .i64) (.pair (.int .u64) (.pair (.int .u64) .unit))))], [.val .bool], []⟩
noncomputable def sm56 : CSem := mkSem sg56 fun x => vec_May x.1
noncomputable def cf56 : Cfg := cf [(81, sem81), (57, sem57), (82, sem82)] 14 0 []

noncomputable def sem56 : CSem := sm56

noncomputable def ag93 : List AK := [.val (.int .i64), .val (.int .u64), .val (.int .u64)]
noncomputable def al93 : List Alt := [([.val (.agg (.pair (.int .i64) (.pair (.int .u64) (.pair (.int .u64) .unit)))), .val (.int .i64)], [])]
noncomputable def sm93 : CSem := mkSemA ag93 al93 fun x => vec_New x.1 x.2.1 x.2.2.1
noncomputable def cf93 : Cfg := cf [(81, sem81), (56, sem56)] 24 0 []

noncomputable def sem93 : CSem := sm93

noncomputable def ag70 : List AK := [.val .str]
noncomputable def al70 : List Alt := [([.val (.agg (.pair (.int .i64) (.pair (.int .u64) (.pair (.int .u64) .unit)))), .val (.int .i64)], [])]
noncomputable def sm70 : CSem := mkSemA ag70 al70 fun x => vec_Parse x.1
noncomputable def cf70 : Cfg := cf [(35, sem35), (72, sem72), (81, sem81), (93, sem93)] 69 0 []

noncomputable def sem70 : CSem := sm70

noncomputable def sg94 : Sig := ⟨[.val .str, .val .str], [.val .str, .val .bool], []⟩
noncomputable def sm94 : CSem := mkSem sg94 fun x => internal_stringslite_CutPrefix x.1 x.2.1
noncomputable def cf94 : Cfg := cfs [(65, sem65)] 15 0 []

noncomputable def sem94 : CSem := sm94

noncomputable def sg71 : Sig := ⟨[.val .str, .val .str], [.val .str, .val .bool], []⟩
noncomputable def sm71 : CSem := mkSem sg71 fun x => strings_CutPrefix x.1 x.2.1
noncomputable def cf71 : Cfg := cfs [(94, sem94)] 11 0 []

noncomputable def sem71 : CSem := sm71

noncomputable def ag45 : List AK := [.val .str, .val (.int .i64)]
noncomputable def al45 : List Alt := [([.val (.agg (.pair (.int .i64) (.pair .str (.pair (.int .i64) (.pair (.agg (.pair (.int .i64) (.pair (.int .u64) (.pair (.int .u64) .unit)))) (.pair (.int .i64) .unit)))))), .val (.int .i64)], [])]
noncomputable def sm45 : CSem := mkSemA ag45 al45 fun x => lex_number x.1 x.2.1
noncomputable def cf45 : Cfg := cfs [(69, sem69), (70, sem70), (71, sem71), (72, sem72)] 70 0 []

noncomputable def sem45 : CSem := sm45

noncomputable def ag20 : List AK := [.val .str, .val (.int .i64)]
noncomputable def al20 : List Alt := [([.val (.agg (.pair (.int .i64) (.pair .str (.pair (.int .i64) (.pair (.agg (.pair (.int .i64) (.pair (.int .u64) (.pair (.int .u64) .unit)))) (.pair (.int .i64) .unit)))))), .val (.int .i64), .val (.int .i64)], [])]
noncomputable def sm20 : CSem := mkSemA ag20 al20 fun x => lex_one x.1 x.2.1
noncomputable def cf20 : Cfg := cfs [(37, sem37), (36, sem36), (38, sem38), (39, sem39), (40, sem40), (42, sem42), (43, sem43), (45, sem45)] 59 0 []

noncomputable def sem20 : CSem := sm20

noncomputable def sg9 : Sig := ⟨[.val .str], [.own (.own (.agg (.pair (.int .i64) (.pair .str (.pair (.int .i64) (.pair (.agg (.pair (.int .i64) (.pair (.int .u64) (.pair (.int .u64) .unit)))) (.pair (.int .i64) .unit))))))), .val (.alt 45 (.ptr (.agg (.pair (.int .i64) (.pair (.int .i64) .unit)))) .nili)], []⟩
noncomputable def sm9 : CSem := mkSem sg9 fun x => lex_Scan x.1
noncomputable def cf9 : Cfg := cfs [(19, sem19), (20, sem20)] 51 0 [(0, ⟨[(0, .dat .str), (4, .own (.agg (.pair (.int .i64) (.pair .str (.pair (.int .i64) (.pair (.agg (.pair (.int .i64) (.pair (.int .u64) (.pair (.int .u64) .unit)))) (.pair (.int .i64) .unit)))))) false), (5, .dat (.int .i64))], []⟩)]

noncomputable def sem9 : CSem := sm9

noncomputable def law06_lives : Option ((Bool × Unit) × (Unit)) :=
 (lex_Scan [115, 101, 116, 32, 105, 112, 46, 116, 116, 108, 32, 61, 32, 56, 39, 52, 48, 59]).bind fun r_1 =>
 let t8_2 : Bool := isNil1 r_1.1.2.1
 guardR t8_2 (some ()) () fun _ =>
 guardR t8_2 (some (r_1.1.1.length : Int)) 0 fun v_3 =>
 guardR t8_2 (some (decide (v_3 = 5))) false fun v_4 =>
 let t13_5 : Bool := bif t8_2 then v_4 else false
 guardR t13_5 (some ()) () fun _ =>
 guardR t13_5 (Option.map (fun _ => 1) (ckI 1 r_1.1.1.length)) 0 fun v_6 =>
 guardR t13_5 (some ()) () fun _ =>
 guardR t13_5 (((rdI r_1.1.1 v_6).map (·.2)).map (·.1)) [] fun v_7 =>
 guardR t13_5 (some (decide (v_7 = [105, 112, 46, 116, 116, 108]))) false fun v_8 =>
 let t20_9 : Bool := bif t13_5 then v_8 else false
 guardR t20_9 (some ()) () fun _ =>
 guardR t20_9 (Option.map (fun _ => 3) (ckI 3 r_1.1.1.length)) 0 fun v_10 =>
 guardR t20_9 (some ()) () fun _ =>
 guardR t20_9 (((((rdI r_1.1.1 v_10).map (·.2)).map (·.2)).map (·.2)).map (·.1)) (0, 0, 0, ()) fun v_11 =>
 guardR t20_9 (some ()) () fun _ =>
 guardR t20_9 (some ()) () fun _ =>
 some (((bif t20_9 then (decide (v_11.1 = 8) && (decide (v_11.2.1 = 0) && decide (v_11.2.2.1 = 64))) else false), ()), ())

noncomputable def sg8 : Sig := ⟨[], [.val .bool], []⟩
noncomputable def sm8 : CSem := mkSem sg8 fun x => law06_lives
noncomputable def cf8 : Cfg := cfs [(9, sem9)] 29 0 []

noncomputable def sem8 : CSem := sm8

noncomputable def law06_LexRemarks_s4 (l_8_4 : List (Int × (List Int) × Int × (Int × Int × Int × Unit) × Int × Unit)) (m_10_4 : List (Int × (List Int) × Int × (Int × Int × Int × Unit) × Int × Unit)) (all_12_4 : List (Int × (List Int) × Int × (Int × Int × Int × Unit) × Int × Unit)) (i_15_4 : Int) : Option ((((List (Int × (List Int) × Int × (Int × Int × Int × Unit) × Int × Unit)) × (List (Int × (List Int) × Int × (Int × Int × Int × Unit) × Int × Unit)) × (List (Int × (List Int) × Int × (Int × Int × Int × Unit) × Int × Unit)) × Int × Unit) × (Unit)) ⊕ ((Bool × Unit) × (Unit))) :=
 bif (decide (i_15_4 < (m_10_4.length : Int))) then
  let t131_56 : Int := IntKind.i64.wrap ((l_8_4.length : Int) + i_15_4)
  (Option.map (fun _ => t131_56) (ckI t131_56 all_12_4.length)).bind fun v_57 =>
  (((rdI all_12_4 v_57).map (·.2)).map (·.1)).bind fun v_58 =>
  (Option.map (fun _ => i_15_4) (ckI i_15_4 m_10_4.length)).bind fun v_59 =>
  (((rdI m_10_4 v_59).map (·.2)).map (·.1)).bind fun v_60 =>
  let t140_61 : Bool := !decide (v_58 = v_60)
  guardR (!t140_61) (some ()) () fun _ =>
  guardR (!t140_61) (some ()) () fun _ =>
  guardR (!t140_61) (some (l_8_4.length : Int)) 0 fun v_62 =>
  guardR (!t140_61) (some ()) () fun _ =>
  guardR (!t140_61) (some (IntKind.i64.wrap (v_62 + i_15_4))) 0 fun v_63 =>
  guardR (!t140_61) (Option.map (fun _ => v_63) (ckI v_63 all_12_4.length)) 0 fun v_64 =>
  guardR (!t140_61) (some ()) () fun _ =>
  guardR (!t140_61) ((((rdI all_12_4 v_64).map (·.2)).map (·.2)).map (·.1)) 0 fun v_65 =>
  guardR (!t140_61) (some ()) () fun _ =>
  guardR (!t140_61) (some ()) () fun _ =>
  guardR (!t140_61) (Option.map (fun _ => i_15_4) (ckI i_15_4 m_10_4.length)) 0 fun v_66 =>
  guardR (!t140_61) (some ()) () fun _ =>
  guardR (!t140_61) ((((rdI m_10_4 v_66).map (·.2)).map (·.2)).map (·.1)) 0 fun v_67 =>
  guardR (!t140_61) (some (!decide (v_65 = v_67))) false fun v_68 =>
  let t156_69 : Bool := bif t140_61 then true else v_68
  guardR (!t156_69) (some ()) () fun _ =>
  guardR (!t156_69) (some ()) () fun _ =>
  guardR (!t156_69) (some (l_8_4.length : Int)) 0 fun v_70 =>
  guardR (!t156_69) (some ()) () fun _ =>
  guardR (!t156_69) (some (IntKind.i64.wrap (v_70 + i_15_4))) 0 fun v_71 =>
  guardR (!t156_69) (Option.map (fun _ => v_71) (ckI v_71 all_12_4.length)) 0 fun v_72 =>
  guardR (!t156_69) (some ()) () fun _ =>
  guardR (!t156_69) (((((rdI all_12_4 v_72).map (·.2)).map (·.2)).map (·.2)).map (·.1)) (0, 0, 0, ()) fun v_73 =>
  guardR (!t156_69) (some ()) () fun _ =>
  guardR (!t156_69) (some ()) () fun _ =>
  guardR (!t156_69) (Option.map (fun _ => i_15_4) (ckI i_15_4 m_10_4.length)) 0 fun v_74 =>
  guardR (!t156_69) (some ()) () fun _ =>
  guardR (!t156_69) (((((rdI m_10_4 v_74).map (·.2)).map (·.2)).map (·.2)).map (·.1)) (0, 0, 0, ()) fun v_75 =>
  guardR (!t156_69) (some ()) () fun _ =>
  bif (bif t156_69 then true else (!(decide (v_73.1 = v_75.1) && (decide (v_73.2.1 = v_75.2.1) && decide (v_73.2.2.1 = v_75.2.2.1))))) then
   some (.inr ((false, ()), ()))
  else
  some (.inl ((l_8_4, m_10_4, all_12_4, (IntKind.i64.wrap (i_15_4 + 1)), ()), ()))
 else
 (law06_lives.bind fun r_79 =>
 some ((r_79.1.1, ()), ())).map .inr
noncomputable def law06_LexRemarks_s2 (l_8_2 : List (Int × (List Int) × Int × (Int × Int × Int × Unit) × Int × Unit)) (m_10_2 : List (Int × (List Int) × Int × (Int × Int × Int × Unit) × Int × Unit)) (all_12_2 : List (Int × (List Int) × Int × (Int × Int × Int × Unit) × Int × Unit)) (i_14_2 : Int) : Option ((((List (Int × (List Int) × Int × (Int × Int × Int × Unit) × Int × Unit)) × (List (Int × (List Int) × Int × (Int × Int × Int × Unit) × Int × Unit)) × (List (Int × (List Int) × Int × (Int × Int × Int × Unit) × Int × Unit)) × Int × Unit) × (Unit)) ⊕ ((Bool × Unit) × (Unit))) :=
 bif (decide (i_14_2 < (l_8_2.length : Int))) then
  (Option.map (fun _ => i_14_2) (ckI i_14_2 all_12_2.length)).bind fun v_35 =>
  (((rdI all_12_2 v_35).map (·.2)).map (·.1)).bind fun v_36 =>
  (Option.map (fun _ => i_14_2) (ckI i_14_2 l_8_2.length)).bind fun v_37 =>
  (((rdI l_8_2 v_37).map (·.2)).map (·.1)).bind fun v_38 =>
  let t94_39 : Bool := !decide (v_36 = v_38)
  guardR (!t94_39) (some ()) () fun _ =>
  guardR (!t94_39) (some ()) () fun _ =>
  guardR (!t94_39) (Option.map (fun _ => i_14_2) (ckI i_14_2 all_12_2.length)) 0 fun v_40 =>
  guardR (!t94_39) (some ()) () fun _ =>
  guardR (!t94_39) ((((rdI all_12_2 v_40).map (·.2)).map (·.2)).map (·.1)) 0 fun v_41 =>
  guardR (!t94_39) (some ()) () fun _ =>
  guardR (!t94_39) (some ()) () fun _ =>
  guardR (!t94_39) (Option.map (fun _ => i_14_2) (ckI i_14_2 l_8_2.length)) 0 fun v_42 =>
  guardR (!t94_39) (some ()) () fun _ =>
  guardR (!t94_39) ((((rdI l_8_2 v_42).map (·.2)).map (·.2)).map (·.1)) 0 fun v_43 =>
  guardR (!t94_39) (some (!decide (v_41 = v_43))) false fun v_44 =>
  let t107_45 : Bool := bif t94_39 then true else v_44
  guardR (!t107_45) (some ()) () fun _ =>
  guardR (!t107_45) (some ()) () fun _ =>
  guardR (!t107_45) (Option.map (fun _ => i_14_2) (ckI i_14_2 all_12_2.length)) 0 fun v_46 =>
  guardR (!t107_45) (some ()) () fun _ =>
  guardR (!t107_45) ((((((rdI all_12_2 v_46).map (·.2)).map (·.2)).map (·.2)).map (·.2)).map (·.1)) 0 fun v_47 =>
  guardR (!t107_45) (some ()) () fun _ =>
  guardR (!t107_45) (some ()) () fun _ =>
  guardR (!t107_45) (Option.map (fun _ => i_14_2) (ckI i_14_2 l_8_2.length)) 0 fun v_48 =>
  guardR (!t107_45) (some ()) () fun _ =>
  guardR (!t107_45) ((((((rdI l_8_2 v_48).map (·.2)).map (·.2)).map (·.2)).map (·.2)).map (·.1)) 0 fun v_49 =>
  guardR (!t107_45) (some (!decide (v_47 = v_49))) false fun v_50 =>
  bif (bif t107_45 then true else v_50) then
   some (.inr ((false, ()), ()))
  else
  some (.inl ((l_8_2, m_10_2, all_12_2, (IntKind.i64.wrap (i_14_2 + 1)), ()), ()))
 else
 (loopR (fun (z : ((List (Int × (List Int) × Int × (Int × Int × Int × Unit) × Int × Unit)) × (List (Int × (List Int) × Int × (Int × Int × Int × Unit) × Int × Unit)) × (List (Int × (List Int) × Int × (Int × Int × Int × Unit) × Int × Unit)) × Int × Unit) × (Unit)) => law06_LexRemarks_s4 z.1.1 z.1.2.1 z.1.2.2.1 z.1.2.2.2.1) ((l_8_2, m_10_2, all_12_2, 0, ()), ())).map .inr
noncomputable def law06_LexRemarks_s0 (a_0_0 : List Int) (b_1_0 : List Int) (remark_2_0 : List Int) (i_7_0 : Int) : Option ((((List Int) × (List Int) × (List Int) × Int × Unit) × (Unit)) ⊕ ((Bool × Unit) × (Unit))) :=
 bif (decide (i_7_0 < (remark_2_0.length : Int))) then
  (rdI remark_2_0 i_7_0).bind fun v_10 =>
  bif (decide (v_10 = 10)) then
   law06_lives.bind fun r_12 =>
   some (.inr ((r_12.1.1, ()), ()))
  else
  some (.inl ((a_0_0, b_1_0, remark_2_0, (IntKind.i64.wrap (i_7_0 + 1)), ()), ()))
 else
 ((catI a_0_0 [10]).bind fun v_14 =>
 (lex_Scan v_14).bind fun r_15 =>
 (lex_Scan b_1_0).bind fun r_16 =>
 let t49_17 : Bool := !(isNil1 r_15.1.2.1)
 guardR (!t49_17) (some ()) () fun _ =>
 guardR (!t49_17) (some (!(isNil1 r_16.1.2.1))) false fun v_18 =>
 bif (bif t49_17 then true else v_18) then
  law06_lives.bind fun r_20 =>
  some ((r_20.1.1, ()), ())
 else
 (catI a_0_0 [10, 32, 9, 35]).bind fun v_21 =>
 (catI v_21 remark_2_0).bind fun v_22 =>
 (catI v_22 [10, 13]).bind fun v_23 =>
 (catI v_23 b_1_0).bind fun v_24 =>
 (lex_Scan v_24).bind fun r_25 =>
 let t67_26 : Bool := !(isNil1 r_25.1.2.1)
 guardR (!t67_26) (some ()) () fun _ =>
 guardR (!t67_26) (some (r_25.1.1.length : Int)) 0 fun v_27 =>
 guardR (!t67_26) (some ()) () fun _ =>
 guardR (!t67_26) (some (r_15.1.1.length : Int)) 0 fun v_28 =>
 guardR (!t67_26) (some ()) () fun _ =>
 guardR (!t67_26) (some (r_16.1.1.length : Int)) 0 fun v_29 =>
 guardR (!t67_26) (some (IntKind.i64.wrap (v_28 + v_29))) 0 fun v_30 =>
 guardR (!t67_26) (some (!decide (v_27 = v_30))) false fun v_31 =>
 bif (bif t67_26 then true else v_31) then
  some ((false, ()), ())
 else
 loopR (fun (z : ((List (Int × (List Int) × Int × (Int × Int × Int × Unit) × Int × Unit)) × (List (Int × (List Int) × Int × (Int × Int × Int × Unit) × Int × Unit)) × (List (Int × (List Int) × Int × (Int × Int × Int × Unit) × Int × Unit)) × Int × Unit) × (Unit)) => law06_LexRemarks_s2 z.1.1 z.1.2.1 z.1.2.2.1 z.1.2.2.2.1) ((r_15.1.1, r_16.1.1, r_25.1.1, 0, ()), ())).map .inr
noncomputable def law06_LexRemarks (a_0 : List Int) (b_1 : List Int) (remark_2 : List Int) : Option ((Bool × Unit) × (Unit)) :=
 bif (decide ((IntKind.i64.wrap ((IntKind.i64.wrap ((a_0.length : Int) + (b_1.length : Int))) + (remark_2.length : Int))) > 3000)) then
  law06_lives.bind fun r_7 =>
  some ((r_7.1.1, ()), ())
 else
 loopR (fun (z : ((List Int) × (List Int) × (List Int) × Int × Unit) × (Unit)) => law06_LexRemarks_s0 z.1.1 z.1.2.1 z.1.2.2.1 z.1.2.2.2.1) ((a_0, b_1, remark_2, 0, ()), ())

noncomputable def sg3 : Sig := ⟨[.val .str, .val .str, .val .str], [.val .bool], []⟩
noncomputable def sm3 : CSem := mkSem sg3 fun x => law06_LexRemarks x.1 x.2.1 x.2.2.1
noncomputable def cf3 : Cfg := cfs [(8, sem8), (9, sem9)] 174 0 [(4, ⟨[(8, .own (.agg (.pair (.int .i64) (.pair .str (.pair (.int .i64) (.pair (.agg (.pair (.int .i64) (.pair (.int .u64) (.pair (.int .u64) .unit)))) (.pair (.int .i64) .unit)))))) false), (10, .own (.agg (.pair (.int .i64) (.pair .str (.pair (.int .i64) (.pair (.agg (.pair (.int .i64) (.pair (.int .u64) (.pair (.int .u64) .unit)))) (.pair (.int .i64) .unit)))))) false), (12, .own (.agg (.pair (.int .i64) (.pair .str (.pair (.int .i64) (.pair (.agg (.pair (.int .i64) (.pair (.int .u64) (.pair (.int .u64) .unit)))) (.pair (.int .i64) .unit)))))) false), (15, .dat (.int .i64))], []⟩), (2, ⟨[(8, .own (.agg (.pair (.int .i64) (.pair .str (.pair (.int .i64) (.pair (.agg (.pair (.int .i64) (.pair (.int .u64) (.pair (.int .u64) .unit)))) (.pair (.int .i64) .unit)))))) false), (10, .own (.agg (.pair (.int .i64) (.pair .str (.pair (.int .i64) (.pair (.agg (.pair (.int .i64) (.pair (.int .u64) (.pair (.int .u64) .unit)))) (.pair (.int .i64) .unit)))))) false), (12, .own (.agg (.pair (.int .i64) (.pair .str (.pair (.int .i64) (.pair (.agg (.pair (.int .i64) (.pair (.int .u64) (.pair (.int .u64) .unit)))) (.pair (.int .i64) .unit)))))) false), (14, .dat (.int .i64))], []⟩), (0, ⟨[(0, .dat .str), (1, .dat .str), (2, .dat .str), (7, .dat (.int .i64))], []⟩)]

noncomputable def sem3 : CSem := sm3

noncomputable def sg21 : Sig := ⟨[.val .str, .val (.int .i64)], [.val (.int .i64)], []⟩
noncomputable def sm21 : CSem := mkSem sg21 fun x => ref06_Skip x.1 x.2.1
noncomputable def cf21 : Cfg := cfs [] 45 0 [(2, ⟨[(0, .dat .str), (1, .dat (.int .i64))], []⟩), (0, ⟨[(0, .dat .str), (1, .dat (.int .i64))], []⟩)]

noncomputable def sem21 : CSem := sm21

noncomputable def sg46 : Sig := ⟨[.val (.int .u8)], [.val .bool], []⟩
noncomputable def sm46 : CSem := mkSem sg46 fun x => ref05_more x.1
noncomputable def cf46 : Cfg := cf [] 9 0 []

noncomputable def sem46 : CSem := sm46

noncomputable def sg22 : Sig := ⟨[.val .str], [.val (.int .i64), .val (.int .i64)], []⟩
noncomputable def sm22 : CSem := mkSem sg22 fun x => ref05_First x.1
noncomputable def cf22 : Cfg := cf [(46, sem46)] 139 0 []

noncomputable def sem22 : CSem := sm22

noncomputable def sg23 : Sig := ⟨[.val (.int .i64)], [.val .bool], []⟩
noncomputable def sm23 : CSem := mkSem sg23 fun x => ref05_Letter x.1
noncomputable def cf23 : Cfg := cf [] 53 0 []

noncomputable def sem23 : CSem := sm23

noncomputable def sg24 : Sig := ⟨[.val (.int .i64)], [.val .bool], []⟩
noncomputable def sm24 : CSem := mkSem sg24 fun x => ref06_digit x.1
noncomputable def cf24 : Cfg := cfs [] 9 0 []

noncomputable def sem24 : CSem := sm24

noncomputable def sg47 : Sig := ⟨[.val .str], [.own (.own (.int .i64))], []⟩
noncomputable def sm47 : CSem := mkSem sg47 fun x => ref05_Runes x.1
noncomputable def cf47 : Cfg := cf [(22, sem22)] 22 0 [(0, ⟨[(0, .dat .str), (3, .own (.int .i64) false)], []⟩)]

noncomputable def sem47 : CSem := sm47

noncomputable def sg25 : Sig := ⟨[.val .str], [.val .bool], []⟩
noncomputable def sm25 : CSem := mkSem sg25 fun x => ref05_May x.1
noncomputable def cf25 : Cfg := cf [(47, sem47), (23, sem23)] 63 0 [(0, ⟨[(3, .own (.int .i64) false), (4, .dat (.int .i64))], []⟩)]

noncomputable def sem25 : CSem := sm25

noncomputable def ag73 : List AK := [.val (.agg (.arr 128 .bool))]
noncomputable def al73 : List Alt := [([.val (.agg (.arr 128 .bool))], [])]
noncomputable def sm73 : CSem := mkSemA ag73 al73 fun x => ref01_Turned x.1
noncomputable def cf73 : Cfg := cf [] 16 0 [(0, ⟨[(1, .loc (nameOf 1 0) []), (2, .loc (nameOf 2 0) []), (3, .loc (nameOf 3 0) []), (4, .dat (.int .i64))], [((nameOf 1 0), (.agg (.arr 128 .bool))), ((nameOf 2 0), (.agg (.arr 128 .bool))), ((nameOf 3 0), (.agg (.arr 128 .bool)))]⟩)]

noncomputable def sem73 : CSem := sm73

noncomputable def ag29 : List AK := [.val (.int .u64), .val (.int .u64)]
noncomputable def al29 : List Alt := [([.val (.agg (.arr 128 .bool))], [])]
noncomputable def sm29 : CSem := mkSemA ag29 al29 fun x => ref01_Of x.1 x.2.1
noncomputable def cf29 : Cfg := cf [] 27 0 [(0, ⟨[(0, .dat (.int .u64)), (1, .dat (.int .u64)), (4, .loc (nameOf 4 0) []), (5, .loc (nameOf 5 0) []), (6, .dat (.int .i64))], [((nameOf 4 0), (.agg (.arr 128 .bool))), ((nameOf 5 0), (.agg (.arr 128 .bool)))]⟩)]

noncomputable def sem29 : CSem := sm29

noncomputable def ag54 : List AK := [.val (.int .i64)]
noncomputable def al54 : List Alt := [([.val (.agg (.arr 128 .bool))], [])]
noncomputable def sm54 : CSem := mkSemA ag54 al54 fun x => ref01_small x.1
noncomputable def cf54 : Cfg := cf [(29, sem29)] 6 0 []

noncomputable def sem54 : CSem := sm54

noncomputable def ag79 : List AK := [.val (.agg (.arr 128 .bool)), .val (.int .i64)]
noncomputable def al79 : List Alt := [([.val (.agg (.arr 128 .bool))], [])]
noncomputable def sm79 : CSem := mkSemA ag79 al79 fun x => ref01_Moved x.1 x.2.1
noncomputable def cf79 : Cfg := cf [] 37 0 [(0, ⟨[(1, .dat (.int .i64)), (2, .loc (nameOf 2 0) []), (4, .loc (nameOf 4 0) []), (5, .loc (nameOf 5 0) []), (6, .dat (.int .i64))], [((nameOf 2 0), (.agg (.arr 128 .bool))), ((nameOf 4 0), (.agg (.arr 128 .bool))), ((nameOf 5 0), (.agg (.arr 128 .bool)))]⟩)]

noncomputable def sem79 : CSem := sm79

noncomputable def sg74 : Sig := ⟨[.val (.agg (.arr 128 .bool)), .val (.agg (.arr 128 .bool))], [.val .bool], []⟩
noncomputable def sm74 : CSem := mkSem sg74 fun x => ref01_Less x.1 x.2.1
noncomputable def cf74 : Cfg := cf [] 20 0 [(0, ⟨[(2, .loc (nameOf 2 0) []), (3, .loc (nameOf 3 0) []), (5, .dat (.int .i64))], [((nameOf 2 0), (.agg (.arr 128 .bool))), ((nameOf 3 0), (.agg (.arr 128 .bool)))]⟩)]

noncomputable def sem74 : CSem := sm74

noncomputable def ag75 : List AK := [.val (.agg (.arr 128 .bool)), .val (.agg (.arr 128 .bool)), .val .bool]
noncomputable def al75 : List Alt := [([.val (.agg (.arr 128 .bool)), .val .bool], [])]
noncomputable def sm75 : CSem := mkSemA ag75 al75 fun x => ref01_Sum x.1 x.2.1 x.2.2.1
noncomputable def cf75 : Cfg := cf [] 37 0 [(0, ⟨[(2, .dat .bool), (3, .loc (nameOf 3 0) []), (4, .loc (nameOf 4 0) []), (6, .loc (nameOf 6 0) []), (8, .loc (nameOf 8 0) []), (9, .dat (.int .i64))], [((nameOf 3 0), (.agg (.arr 128 .bool))), ((nameOf 4 0), (.agg (.arr 128 .bool))), ((nameOf 6 0), (.agg (.arr 128 .bool))), ((nameOf 8 0), (.agg (.arr 128 .bool)))]⟩)]

noncomputable def sem75 : CSem := sm75

noncomputable def ag80 : List AK := [.val (.agg (.arr 128 .bool)), .val (.agg (.arr 128 .bool))]
noncomputable def al80 : List Alt := [([.val (.agg (.arr 128 .bool)), .val .bool], [])]
noncomputable def sm80 : CSem := mkSemA ag80 al80 fun x => ref01_Minus x.1 x.2.1
noncomputable def cf80 : Cfg := cf [(73, sem73), (75, sem75), (74, sem74)] 19 0 []

noncomputable def sem80 : CSem := sm80

noncomputable def ag53 : List AK := [.val (.agg (.arr 128 .bool)), .val (.agg (.arr 128 .bool))]
noncomputable def al53 : List Alt := [([.val (.agg (.arr 128 .bool)), .val (.agg (.arr 128 .bool))], [])]
noncomputable def sm53 : CSem := mkSemA ag53 al53 fun x => ref01_Part x.1 x.2.1
noncomputable def cf53 : Cfg := cf [(79, sem79), (74, sem74), (80, sem80)] 39 0 [(0, ⟨[(2, .loc (nameOf 2 0) []), (3, .loc (nameOf 3 0) []), (4, .loc (nameOf 4 0) []), (5, .loc (nameOf 5 0) []), (6, .loc (nameOf 6 0) []), (7, .loc (nameOf 7 0) []), (8, .dat (.int .i64))], [((nameOf 2 0), (.agg (.arr 128 .bool))), ((nameOf 3 0), (.agg (.arr 128 .bool))), ((nameOf 4 0), (.agg (.arr 128 .bool))), ((nameOf 5 0), (.agg (.arr 128 .bool))), ((nameOf 6 0), (.agg (.arr 128 .bool))), ((nameOf 7 0), (.agg (.arr 128 .bool)))]⟩)]

noncomputable def sem53 : CSem := sm53

noncomputable def ag76 : List AK := [.val (.agg (.arr 128 .bool)), .val (.agg (.arr 128 .bool))]
noncomputable def al76 : List Alt := [([.val (.agg (.arr 128 .bool))], [])]
noncomputable def sm76 : CSem := mkSemA ag76 al76 fun x => ref01_Product x.1 x.2.1
noncomputable def cf76 : Cfg := cf [(79, sem79), (75, sem75)] 23 0 [(0, ⟨[(2, .loc (nameOf 2 0) []), (3, .loc (nameOf 3 0) []), (4, .loc (nameOf 4 0) []), (5, .loc (nameOf 5 0) []), (6, .dat (.int .i64))], [((nameOf 2 0), (.agg (.arr 128 .bool))), ((nameOf 3 0), (.agg (.arr 128 .bool))), ((nameOf 4 0), (.agg (.arr 128 .bool))), ((nameOf 5 0), (.agg (.arr 128 .bool)))]⟩)]

noncomputable def sem76 : CSem := sm76

noncomputable def ag49 : List AK := [.val .str, .val (.int .i64)]
noncomputable def al49 : List Alt := [([.val (.agg (.arr 128 .bool)), .val (.int .i64)], [])]
noncomputable def sm49 : CSem := mkSemA ag49 al49 fun x => ref01_Parse x.1 x.2.1
noncomputable def cf49 : Cfg := cf [(73, sem73), (54, sem54), (53, sem53), (74, sem74), (76, sem76), (75, sem75)] 85 0 [(2, ⟨[(0, .dat .str), (1, .dat (.int .i64)), (4, .loc (nameOf 4 0) []), (6, .loc (nameOf 6 0) []), (7, .dat .bool), (8, .dat (.int .i64)), (9, .dat (.int .i64)), (10, .dat (.int .i64))], [((nameOf 4 0), (.agg (.arr 128 .bool))), ((nameOf 6 0), (.agg (.arr 128 .bool)))]⟩), (0, ⟨[(0, .dat .str), (1, .dat (.int .i64)), (4, .loc (nameOf 4 0) []), (6, .loc (nameOf 6 0) []), (7, .dat .bool), (8, .dat (.int .i64))], [((nameOf 4 0), (.agg (.arr 128 .bool))), ((nameOf 6 0), (.agg (.arr 128 .bool)))]⟩)]

noncomputable def sem49 : CSem := sm49

noncomputable def sg51 : Sig := ⟨[.val (.agg (.arr 128 .bool))], [.val (.int .u64), .val (.int .u64)], []⟩
noncomputable def sm51 : CSem := mkSem sg51 fun x => ref01_Halves x.1
noncomputable def cf51 : Cfg := cf [] 28 0 [(0, ⟨[(1, .loc (nameOf 1 0) []), (4, .dat (.int .u64)), (5, .dat (.int .u64)), (6, .dat (.int .i64))], [((nameOf 1 0), (.agg (.arr 128 .bool)))]⟩)]

noncomputable def sem51 : CSem := sm51

noncomputable def sg50 : Sig := ⟨[.val (.agg (.arr 128 .bool))], [.val (.int .i64)], []⟩
noncomputable def sm50 : CSem := mkSem sg50 fun x => ref01_Len x.1
noncomputable def cf50 : Cfg := cf [] 13 0 [(0, ⟨[(1, .loc (nameOf 1 0) []), (3, .dat (.int .i64))], [((nameOf 1 0), (.agg (.arr 128 .bool)))]⟩)]

noncomputable def sem50 : CSem := sm50

noncomputable def ag48 : List AK := [.val .str]
noncomputable def al48 : List Alt := [([.val (.agg (.pair (.int .i64) (.pair (.int .u64) (.pair (.int .u64) .unit)))), .val (.int .i64)], [])]
noncomputable def sm48 : CSem := mkSemA ag48 al48 fun x => ref02_Parse x.1
noncomputable def cf48 : Cfg := cf [(49, sem49), (51, sem51), (50, sem50)] 96 0 [(0, ⟨[(0, .dat .str), (2, .loc (nameOf 2 0) []), (4, .dat (.int .i64))], [((nameOf 2 0), (.agg (.pair (.int .i64) (.pair (.int .u64) (.pair (.int .u64) .unit)))))]⟩)]

noncomputable def sem48 : CSem := sm48

noncomputable def ag26 : List AK := [.val .str, .val (.int .i64)]
noncomputable def al26 : List Alt := [([.val (.agg (.pair (.int .i64) (.pair .str (.pair (.int .i64) (.pair (.agg (.pair (.int .i64) (.pair (.int .u64) (.pair (.int .u64) .unit)))) (.pair (.int .i64) .unit)))))), .val (.int .i64)], [])]
noncomputable def sm26 : CSem := mkSemA ag26 al26 fun x => ref06_Number x.1 x.2.1
noncomputable def cf26 : Cfg := cfs [(48, sem48), (49, sem49), (50, sem50), (51, sem51)] 77 0 [(0, ⟨[(0, .dat .str), (4, .loc (nameOf 4 0) []), (6, .loc (nameOf 6 0) []), (7, .dat (.int .i64))], [((nameOf 4 0), (.agg (.pair (.int .i64) (.pair .str (.pair (.int .i64) (.pair (.agg (.pair (.int .i64) (.pair (.int .u64) (.pair (.int .u64) .unit)))) (.pair (.int .i64) .unit))))))), ((nameOf 6 0), (.agg (.pair (.int .i64) (.pair .str (.pair (.int .i64) (.pair (.agg (.pair (.int .i64) (.pair (.int .u64) (.pair (.int .u64) .unit)))) (.pair (.int .i64) .unit)))))))]⟩)]

noncomputable def sem26 : CSem := sm26

noncomputable def sg10 : Sig := ⟨[.val .str], [.own (.own (.agg (.pair (.int .i64) (.pair .str (.pair (.int .i64) (.pair (.agg (.pair (.int .i64) (.pair (.int .u64) (.pair (.int .u64) .unit)))) (.pair (.int .i64) .unit))))))), .val (.int .i64), .val (.int .i64)], []⟩
noncomputable def sm10 : CSem := mkSem sg10 fun x => ref06_Scan x.1
noncomputable def cf10 : Cfg := cfs [(21, sem21), (22, sem22), (23, sem23), (24, sem24), (25, sem25), (26, sem26)] 183 0 [(2, ⟨[(0, .dat .str), (5, .own (.agg (.pair (.int .i64) (.pair .str (.pair (.int .i64) (.pair (.agg (.pair (.int .i64) (.pair (.int .u64) (.pair (.int .u64) .unit)))) (.pair (.int .i64) .unit)))))) false), (6, .dat (.int .i64)), (10, .dat .bool), (11, .dat (.int .i64))], []⟩), (0, ⟨[(0, .dat .str), (5, .own (.agg (.pair (.int .i64) (.pair .str (.pair (.int .i64) (.pair (.agg (.pair (.int .i64) (.pair (.int .u64) (.pair (.int .u64) .unit)))) (.pair (.int .i64) .unit)))))) false), (6, .dat (.int .i64))], []⟩)]

noncomputable def sem10 : CSem := sm10

noncomputable def sg11 : Sig := ⟨[.val (.alt 45 (.ptr (.agg (.pair (.int .i64) (.pair (.int .i64) .unit)))) .nili)], [.val (.int .i64), .val (.int .i64)], []⟩
noncomputable def sm11 : CSem := mkSem sg11 fun x => lex_Why_8d8 x.1
noncomputable def cf11 : Cfg := cfs [] 27 0 []

noncomputable def sem11 : CSem := sm11

noncomputable def law06_alike (a_0 : Int × (List Int) × Int × (Int × Int × Int × Unit) × Int × Unit) (b_1 : Int × (List Int) × Int × (Int × Int × Int × Unit) × Int × Unit) : Option ((Bool × Unit) × (Unit)) :=
 let t9_1 : Bool := decide (a_0.1 = b_1.1)
 guardR t9_1 (some ()) () fun _ =>
 guardR t9_1 (some a_0.2.1) [] fun v_2 =>
 guardR t9_1 (some ()) () fun _ =>
 guardR t9_1 (some b_1.2.1) [] fun v_3 =>
 guardR t9_1 (some (decide (v_2 = v_3))) false fun v_4 =>
 let t16_5 : Bool := bif t9_1 then v_4 else false
 guardR t16_5 (some ()) () fun _ =>
 guardR t16_5 (some a_0.2.2.1) 0 fun v_6 =>
 guardR t16_5 (some ()) () fun _ =>
 guardR t16_5 (some b_1.2.2.1) 0 fun v_7 =>
 guardR t16_5 (some (decide (v_6 = v_7))) false fun v_8 =>
 let t23_9 : Bool := bif t16_5 then v_8 else false
 guardR t23_9 (some ()) () fun _ =>
 guardR t23_9 (some (a_0.2.2.2.1.1, a_0.2.2.2.1.2.1, a_0.2.2.2.1.2.2.1, ())) (0, 0, 0, ()) fun v_10 =>
 guardR t23_9 (some ()) () fun _ =>
 guardR t23_9 (some (b_1.2.2.2.1.1, b_1.2.2.2.1.2.1, b_1.2.2.2.1.2.2.1, ())) (0, 0, 0, ()) fun v_11 =>
 guardR t23_9 (some ()) () fun _ =>
 some (((bif t23_9 then (decide (v_10.1 = v_11.1) && (decide (v_10.2.1 = v_11.2.1) && decide (v_10.2.2.1 = v_11.2.2.1))) else false), ()), ())

noncomputable def sg12 : Sig := ⟨[.val (.agg (.pair (.int .i64) (.pair .str (.pair (.int .i64) (.pair (.agg (.pair (.int .i64) (.pair (.int .u64) (.pair (.int .u64) .unit)))) (.pair (.int .i64) .unit)))))), .val (.agg (.pair (.int .i64) (.pair .str (.pair (.int .i64) (.pair (.agg (.pair (.int .i64) (.pair (.int .u64) (.pair (.int .u64) .unit)))) (.pair (.int .i64) .unit))))))], [.val .bool], []⟩
noncomputable def sm12 : CSem := mkSem sg12 fun x => law06_alike x.1 x.2.1
noncomputable def cf12 : Cfg := cfs [] 31 0 []

noncomputable def sem12 : CSem := sm12

noncomputable def law06_LexScans_s0 (l_3_0 : List (Int × (List Int) × Int × (Int × Int × Int × Unit) × Int × Unit)) (m_5_0 : List (Int × (List Int) × Int × (Int × Int × Int × Unit) × Int × Unit)) (i_10_0 : Int) : Option ((((List (Int × (List Int) × Int × (Int × Int × Int × Unit) × Int × Unit)) × (List (Int × (List Int) × Int × (Int × Int × Int × Unit) × Int × Unit)) × Int × Unit) × (Unit)) ⊕ ((Bool × Unit) × (Unit))) :=
 bif (decide (i_10_0 < (l_3_0.length : Int))) then
  (Option.map (fun _ => i_10_0) (ckI i_10_0 l_3_0.length)).bind fun v_26 =>
  (rdI l_3_0 v_26).bind fun v_27 =>
  (Option.map (fun _ => i_10_0) (ckI i_10_0 m_5_0.length)).bind fun v_28 =>
  (rdI m_5_0 v_28).bind fun v_29 =>
  (law06_alike v_27 v_29).bind fun r_30 =>
  guardR (!(!r_30.1.1)) (some ()) () fun _ =>
  guardR (!(!r_30.1.1)) (some ()) () fun _ =>
  guardR (!(!r_30.1.1)) (Option.map (fun _ => i_10_0) (ckI i_10_0 l_3_0.length)) 0 fun v_31 =>
  guardR (!(!r_30.1.1)) (some ()) () fun _ =>
  guardR (!(!r_30.1.1)) ((((((rdI l_3_0 v_31).map (·.2)).map (·.2)).map (·.2)).map (·.2)).map (·.1)) 0 fun v_32 =>
  guardR (!(!r_30.1.1)) (some ()) () fun _ =>
  guardR (!(!r_30.1.1)) (some ()) () fun _ =>
  guardR (!(!r_30.1.1)) (Option.map (fun _ => i_10_0) (ckI i_10_0 m_5_0.length)) 0 fun v_33 =>
  guardR (!(!r_30.1.1)) (some ()) () fun _ =>
  guardR (!(!r_30.1.1)) ((((((rdI m_5_0 v_33).map (·.2)).map (·.2)).map (·.2)).map (·.2)).map (·.1)) 0 fun v_34 =>
  guardR (!(!r_30.1.1)) (some (!decide (v_32 = v_34))) false fun v_35 =>
  bif (bif !r_30.1.1 then true else v_35) then
   some (.inr ((false, ()), ()))
  else
  some (.inl ((l_3_0, m_5_0, (IntKind.i64.wrap (i_10_0 + 1)), ()), ()))
 else
 (law06_lives.bind fun r_38 =>
 some ((r_38.1.1, ()), ())).map .inr
noncomputable def law06_LexScans (s_0 : List Int) : Option ((Bool × Unit) × (Unit)) :=
 let t13_2 : Bool := decide ((s_0.length : Int) > 1500)
 guardR t13_2 (some ()) () fun _ =>
 guardR t13_2 (some (s_0.length : Int)) 0 fun v_3 =>
 guardR t13_2 (some (decide (v_3 ≤ 16384))) false fun v_4 =>
 let t18_5 : Bool := bif t13_2 then v_4 else false
 guardR (!t18_5) (some ()) () fun _ =>
 guardR (!t18_5) (some (s_0.length : Int)) 0 fun v_6 =>
 guardR (!t18_5) (some (decide (v_6 > 20000))) false fun v_7 =>
 bif (bif t18_5 then true else v_7) then
  law06_lives.bind fun r_9 =>
  some ((r_9.1.1, ()), ())
 else
 (lex_Scan s_0).bind fun r_10 =>
 (ref06_Scan s_0).bind fun r_11 =>
 (lex_Why_8d8 r_10.1.2.1).bind fun r_12 =>
 let t43_13 : Bool := !decide (r_12.1.1 = r_11.1.2.2.1)
 guardR (!t43_13) (some ()) () fun _ =>
 guardR (!t43_13) (some ()) () fun _ =>
 guardR (!t43_13) (some (!decide (r_12.1.2.1 = r_11.1.2.1))) false fun v_14 =>
 let t48_15 : Bool := bif t43_13 then true else v_14
 guardR (!t48_15) (some ()) () fun _ =>
 guardR (!t48_15) (some (r_10.1.1.length : Int)) 0 fun v_16 =>
 guardR (!t48_15) (some ()) () fun _ =>
 guardR (!t48_15) (some (r_11.1.1.length : Int)) 0 fun v_17 =>
 guardR (!t48_15) (some (!decide (v_16 = v_17))) false fun v_18 =>
 let t55_19 : Bool := bif t48_15 then true else v_18
 guardR (!t55_19) (some ()) () fun _ =>
 guardR (!t55_19) (some (isNil1 r_10.1.2.1)) false fun v_20 =>
 guardR (!t55_19) (some ()) () fun _ =>
 guardR (!t55_19) (some (decide (r_11.1.2.2.1 = 0))) false fun v_21 =>
 guardR (!t55_19) (some ()) () fun _ =>
 bif (bif t55_19 then true else (!(decide (v_20 = v_21)))) then
  some ((false, ()), ())
 else
 loopR (fun (z : ((List (Int × (List Int) × Int × (Int × Int × Int × Unit) × Int × Unit)) × (List (Int × (List Int) × Int × (Int × Int × Int × Unit) × Int × Unit)) × Int × Unit) × (Unit)) => law06_LexScans_s0 z.1.1 z.1.2.1 z.1.2.2.1) ((r_10.1.1, r_11.1.1, 0, ()), ())

noncomputable def sg4 : Sig := ⟨[.val .str], [.val .bool], []⟩
noncomputable def sm4 : CSem := mkSem sg4 fun x => law06_LexScans x.1
noncomputable def cf4 : Cfg := cfs [(8, sem8), (9, sem9), (10, sem10), (11, sem11), (12, sem12)] 93 0 [(0, ⟨[(3, .own (.agg (.pair (.int .i64) (.pair .str (.pair (.int .i64) (.pair (.agg (.pair (.int .i64) (.pair (.int .u64) (.pair (.int .u64) .unit)))) (.pair (.int .i64) .unit)))))) false), (5, .own (.agg (.pair (.int .i64) (.pair .str (.pair (.int .i64) (.pair (.agg (.pair (.int .i64) (.pair (.int .u64) (.pair (.int .u64) .unit)))) (.pair (.int .i64) .unit)))))) false), (10, .dat (.int .i64))], []⟩)]

noncomputable def sem4 : CSem := sm4

noncomputable def sg28 : Sig := ⟨[.val (.agg (.arr 128 .bool)), .val (.int .i64)], [.val .str], []⟩
noncomputable def sm28 : CSem := mkSem sg28 fun x => ref01_Text x.1 x.2.1
noncomputable def cf28 : Cfg := cf [(50, sem50), (54, sem54), (53, sem53), (51, sem51)] 37 0 [(0, ⟨[(1, .dat (.int .i64)), (2, .loc (nameOf 2 0) []), (5, .dat .str)], [((nameOf 2 0), (.agg (.arr 128 .bool)))]⟩)]

noncomputable def sem28 : CSem := sm28

noncomputable def sg55 : Sig := ⟨[.val (.agg (.pair (.int .i64) (.pair (.int .u64) (.pair (.int .u64) .unit))))], [.val .bool], []⟩
noncomputable def sm55 : CSem := mkSem sg55 fun x => ref02_May x.1
noncomputable def cf55 : Cfg := cf [(29, sem29), (50, sem50)] 22 0 []

noncomputable def sem55 : CSem := sm55

noncomputable def sg30 : Sig := ⟨[.val (.agg (.pair (.int .i64) (.pair (.int .u64) (.pair (.int .u64) .unit))))], [.val .str], []⟩
noncomputable def sm30 : CSem := mkSem sg30 fun x => ref02_Text x.1
noncomputable def cf30 : Cfg := cf [(55, sem55), (29, sem29), (28, sem28)] 19 0 []

noncomputable def sem30 : CSem := sm30

noncomputable def sg16 : Sig := ⟨[.val (.agg (.pair (.int .i64) (.pair .str (.pair (.int .i64) (.pair (.agg (.pair (.int .i64) (.pair (.int .u64) (.pair (.int .u64) .unit)))) (.pair (.int .i64) .unit))))))], [.val .str], []⟩
noncomputable def sm16 : CSem := mkSem sg16 fun x => ref06_Text x.1
noncomputable def cf16 : Cfg := cfs [(29, sem29), (28, sem28), (30, sem30)] 25 0 []

noncomputable def sem16 : CSem := sm16

noncomputable def sg52 : Sig := ⟨[.val (.agg (.pair (.int .u64) (.pair (.int .u64) .unit))), .val (.int .i64)], [.val .str], []⟩
noncomputable def sm52 : CSem := mkSem sg52 fun x => word_Text x.1 x.2.1
noncomputable def cf52 : Cfg := cf [(77, sem77), (78, sem78)] 66 0 [(2, ⟨[(5, .own (.int .u8) false), (37, .dat (.int .i64)), (38, .dat (.int .i64))], []⟩), (0, ⟨[(1, .dat (.int .i64)), (2, .loc (nameOf 2 0) []), (5, .own (.int .u8) false)], [((nameOf 2 0), (.agg (.pair (.int .u64) (.pair (.int .u64) .unit))))]⟩)]

noncomputable def sem52 : CSem := sm52

noncomputable def sg27 : Sig := ⟨[.val (.int .i64)], [.val .str], []⟩
noncomputable def sm27 : CSem := mkSem sg27 fun x => lex_digits x.1
noncomputable def cf27 : Cfg := cfs [(52, sem52)] 9 0 []

noncomputable def sem27 : CSem := sm27

noncomputable def sg31 : Sig := ⟨[.val (.agg (.pair (.int .i64) (.pair (.int .u64) (.pair (.int .u64) .unit))))], [.val .str], []⟩
noncomputable def sm31 : CSem := mkSem sg31 fun x => vec_Text x.1
noncomputable def cf31 : Cfg := cf [(56, sem56), (52, sem52), (57, sem57)] 16 0 []

noncomputable def sem31 : CSem := sm31

noncomputable def sg17 : Sig := ⟨[.val (.agg (.pair (.int .i64) (.pair .str (.pair (.int .i64) (.pair (.agg (.pair (.int .i64) (.pair (.int .u64) (.pair (.int .u64) .unit)))) (.pair (.int .i64) .unit))))))], [.val .str], []⟩
noncomputable def sm17 : CSem := mkSem sg17 fun x => lex_Text x.1
noncomputable def cf17 : Cfg := cfs [(27, sem27), (31, sem31)] 20 0 []

noncomputable def sem17 : CSem := sm17

noncomputable def sm32 : CSem := joinSem

noncomputable def sem32 : CSem := sm32

noncomputable def sg18 : Sig := ⟨[.val (.slice (.agg (.pair (.int .i64) (.pair .str (.pair (.int .i64) (.pair (.agg (.pair (.int .i64) (.pair (.int .u64) (.pair (.int .u64) .unit)))) (.pair (.int .i64) .unit)))))))], [.val .str], []⟩
noncomputable def sm18 : CSem := mkSem sg18 fun x => lex_Join x.1
noncomputable def cf18 : Cfg := cfs [(17, sem17), (32, sem32)] 20 0 [(0, ⟨[(3, .own .str false), (6, .dat (.slice (.agg (.pair (.int .i64) (.pair .str (.pair (.int .i64) (.pair (.agg (.pair (.int .i64) (.pair (.int .u64) (.pair (.int .u64) .unit)))) (.pair (.int .i64) .unit)))))))), (7, .dat (.int .i64)), (8, .dat (.int .i64))], []⟩)]

noncomputable def sem18 : CSem := sm18

noncomputable def law06_LexTexts_s0 (l_0_0 : List (Int × (List Int) × Int × (Int × Int × Int × Unit) × Int × Unit)) (m_3_0 : List (Int × (List Int) × Int × (Int × Int × Int × Unit) × Int × Unit)) (want_4_0 : List Int) (i_5_0 : Int) : Option ((((List (Int × (List Int) × Int × (Int × Int × Int × Unit) × Int × Unit)) × (List (Int × (List Int) × Int × (Int × Int × Int × Unit) × Int × Unit)) × (List Int) × Int × Unit) × (Unit)) ⊕ ((Bool × Unit) × (Unit))) :=
 bif (decide (i_5_0 < (l_0_0.length : Int))) then
  (rdI l_0_0 i_5_0).bind fun v_6 =>
  bif (decide ((v_6.2.1.length : Int) > 200)) then
   law06_lives.bind fun r_9 =>
   some (.inr ((r_9.1.1, ()), ()))
  else
  (rdI l_0_0 i_5_0).bind fun v_10 =>
  (rdI l_0_0 i_5_0).bind fun v_11 =>
  (rdI l_0_0 i_5_0).bind fun v_12 =>
  (rdI l_0_0 i_5_0).bind fun v_13 =>
  (rdI l_0_0 i_5_0).bind fun v_14 =>
  (roomI 64 m_3_0 [(v_10.1, v_11.2.1, v_12.2.2.1, v_13.2.2.2.1, v_14.2.2.2.2.1, ())]).bind fun v_15 =>
  bif (decide (i_5_0 > 0)) then
   (catI want_4_0 [32]).bind fun v_17 =>
   (rdI l_0_0 i_5_0).bind fun v_18 =>
   (ref06_Text v_18).bind fun r_19 =>
   (catI v_17 r_19.1.1).bind fun v_20 =>
   (lex_Text (v_10.1, v_11.2.1, v_12.2.2.1, v_13.2.2.2.1, v_14.2.2.2.2.1, ())).bind fun r_21 =>
   (rdI l_0_0 i_5_0).bind fun v_22 =>
   (ref06_Text v_22).bind fun r_23 =>
   bif (!decide (r_21.1.1 = r_23.1.1)) then
    some (.inr ((false, ()), ()))
   else
   some (.inl ((l_0_0, v_15, v_20, (IntKind.i64.wrap (i_5_0 + 1)), ()), ()))
  else
  (rdI l_0_0 i_5_0).bind fun v_26 =>
  (ref06_Text v_26).bind fun r_27 =>
  (catI want_4_0 r_27.1.1).bind fun v_28 =>
  (lex_Text (v_10.1, v_11.2.1, v_12.2.2.1, v_13.2.2.2.1, v_14.2.2.2.2.1, ())).bind fun r_29 =>
  (rdI l_0_0 i_5_0).bind fun v_30 =>
  (ref06_Text v_30).bind fun r_31 =>
  bif (!decide (r_29.1.1 = r_31.1.1)) then
   some (.inr ((false, ()), ()))
  else
  some (.inl ((l_0_0, v_15, v_28, (IntKind.i64.wrap (i_5_0 + 1)), ()), ()))
 else
 ((lex_Join m_3_0).bind fun r_34 =>
 let t77_35 : Bool := decide (r_34.1.1 = want_4_0)
 guardR t77_35 law06_lives ((false, ()), ()) fun r_36 =>
 some (((bif t77_35 then r_36.1.1 else false), ()), ())).map .inr
noncomputable def law06_LexTexts (l_0 : List (Int × (List Int) × Int × (Int × Int × Int × Unit) × Int × Unit)) : Option ((Bool × Unit) × (Unit)) :=
 bif (decide ((l_0.length : Int) > 60)) then
  law06_lives.bind fun r_3 =>
  some ((r_3.1.1, ()), ())
 else
 loopR (fun (z : ((List (Int × (List Int) × Int × (Int × Int × Int × Unit) × Int × Unit)) × (List (Int × (List Int) × Int × (Int × Int × Int × Unit) × Int × Unit)) × (List Int) × Int × Unit) × (Unit)) => law06_LexTexts_s0 z.1.1 z.1.2.1 z.1.2.2.1 z.1.2.2.2.1) ((l_0, [], [], 0, ()), ())

noncomputable def sg6 : Sig := ⟨[.val (.slice (.agg (.pair (.int .i64) (.pair .str (.pair (.int .i64) (.pair (.agg (.pair (.int .i64) (.pair (.int .u64) (.pair (.int .u64) .unit)))) (.pair (.int .i64) .unit)))))))], [.val .bool], []⟩
noncomputable def sm6 : CSem := mkSem sg6 fun x => law06_LexTexts x.1
noncomputable def cf6 : Cfg := cfs [(8, sem8), (16, sem16), (17, sem17), (18, sem18)] 81 0 [(0, ⟨[(0, .dat (.slice (.agg (.pair (.int .i64) (.pair .str (.pair (.int .i64) (.pair (.agg (.pair (.int .i64) (.pair (.int .u64) (.pair (.int .u64) .unit)))) (.pair (.int .i64) .unit)))))))), (3, .own (.agg (.pair (.int .i64) (.pair .str (.pair (.int .i64) (.pair (.agg (.pair (.int .i64) (.pair (.int .u64) (.pair (.int .u64) .unit)))) (.pair (.int .i64) .unit)))))) false), (4, .dat .str), (5, .dat (.int .i64))], []⟩)]

noncomputable def sem6 : CSem := sm6

noncomputable def law06_LexBack_s0 (l_3_0 : List (Int × (List Int) × Int × (Int × Int × Int × Unit) × Int × Unit)) (t_5_0 : List Int) (m_6_0 : List (Int × (List Int) × Int × (Int × Int × Int × Unit) × Int × Unit)) (i_8_0 : Int) : Option ((((List (Int × (List Int) × Int × (Int × Int × Int × Unit) × Int × Unit)) × (List Int) × (List (Int × (List Int) × Int × (Int × Int × Int × Unit) × Int × Unit)) × Int × Unit) × (Unit)) ⊕ ((Bool × Unit) × (Unit))) :=
 bif (decide (i_8_0 < (l_3_0.length : Int))) then
  (Option.map (fun _ => i_8_0) (ckI i_8_0 m_6_0.length)).bind fun v_22 =>
  ((rdI m_6_0 v_22).map (·.1)).bind fun v_23 =>
  (Option.map (fun _ => i_8_0) (ckI i_8_0 l_3_0.length)).bind fun v_24 =>
  ((rdI l_3_0 v_24).map (·.1)).bind fun v_25 =>
  let t62_26 : Bool := !decide (v_23 = v_25)
  guardR (!t62_26) (some ()) () fun _ =>
  guardR (!t62_26) (some ()) () fun _ =>
  guardR (!t62_26) (Option.map (fun _ => i_8_0) (ckI i_8_0 m_6_0.length)) 0 fun v_27 =>
  guardR (!t62_26) (some ()) () fun _ =>
  guardR (!t62_26) (((rdI m_6_0 v_27).map (·.2)).map (·.1)) [] fun v_28 =>
  guardR (!t62_26) (some ()) () fun _ =>
  guardR (!t62_26) (some ()) () fun _ =>
  guardR (!t62_26) (Option.map (fun _ => i_8_0) (ckI i_8_0 l_3_0.length)) 0 fun v_29 =>
  guardR (!t62_26) (some ()) () fun _ =>
  guardR (!t62_26) (((rdI l_3_0 v_29).map (·.2)).map (·.1)) [] fun v_30 =>
  guardR (!t62_26) (some (!decide (v_28 = v_30))) false fun v_31 =>
  let t75_32 : Bool := bif t62_26 then true else v_31
  guardR (!t75_32) (some ()) () fun _ =>
  guardR (!t75_32) (some ()) () fun _ =>
  guardR (!t75_32) (Option.map (fun _ => i_8_0) (ckI i_8_0 m_6_0.length)) 0 fun v_33 =>
  guardR (!t75_32) (some ()) () fun _ =>
  guardR (!t75_32) ((((rdI m_6_0 v_33).map (·.2)).map (·.2)).map (·.1)) 0 fun v_34 =>
  guardR (!t75_32) (some ()) () fun _ =>
  guardR (!t75_32) (some ()) () fun _ =>
  guardR (!t75_32) (Option.map (fun _ => i_8_0) (ckI i_8_0 l_3_0.length)) 0 fun v_35 =>
  guardR (!t75_32) (some ()) () fun _ =>
  guardR (!t75_32) ((((rdI l_3_0 v_35).map (·.2)).map (·.2)).map (·.1)) 0 fun v_36 =>
  guardR (!t75_32) (some (!decide (v_34 = v_36))) false fun v_37 =>
  let t88_38 : Bool := bif t75_32 then true else v_37
  guardR (!t88_38) (some ()) () fun _ =>
  guardR (!t88_38) (some ()) () fun _ =>
  guardR (!t88_38) (Option.map (fun _ => i_8_0) (ckI i_8_0 m_6_0.length)) 0 fun v_39 =>
  guardR (!t88_38) (some ()) () fun _ =>
  guardR (!t88_38) (((((rdI m_6_0 v_39).map (·.2)).map (·.2)).map (·.2)).map (·.1)) (0, 0, 0, ()) fun v_40 =>
  guardR (!t88_38) (some ()) () fun _ =>
  guardR (!t88_38) (some ()) () fun _ =>
  guardR (!t88_38) (Option.map (fun _ => i_8_0) (ckI i_8_0 l_3_0.length)) 0 fun v_41 =>
  guardR (!t88_38) (some ()) () fun _ =>
  guardR (!t88_38) (((((rdI l_3_0 v_41).map (·.2)).map (·.2)).map (·.2)).map (·.1)) (0, 0, 0, ()) fun v_42 =>
  guardR (!t88_38) (some ()) () fun _ =>
  bif (bif t88_38 then true else (!(decide (v_40.1 = v_42.1) && (decide (v_40.2.1 = v_42.2.1) && decide (v_40.2.2.1 = v_42.2.2.1))))) then
   some (.inr ((false, ()), ()))
  else
  some (.inl ((l_3_0, t_5_0, m_6_0, (IntKind.i64.wrap (i_8_0 + 1)), ()), ()))
 else
 ((lex_Join m_6_0).bind fun r_46 =>
 let t105_47 : Bool := decide (r_46.1.1 = t_5_0)
 guardR t105_47 law06_lives ((false, ()), ()) fun r_48 =>
 some (((bif t105_47 then r_48.1.1 else false), ()), ())).map .inr
noncomputable def law06_LexBack (s_0 : List Int) : Option ((Bool × Unit) × (Unit)) :=
 bif (decide ((s_0.length : Int) > 1500)) then
  law06_lives.bind fun r_3 =>
  some ((r_3.1.1, ()), ())
 else
 (lex_Scan s_0).bind fun r_4 =>
 bif (!(isNil1 r_4.1.2.1)) then
  let t22_7 : Bool := decide ((r_4.1.1.length : Int) = 0)
  guardR t22_7 law06_lives ((false, ()), ()) fun r_8 =>
  some (((bif t22_7 then r_8.1.1 else false), ()), ())
 else
 (lex_Join r_4.1.1).bind fun r_10 =>
 bif (decide ((r_10.1.1.length : Int) > 16384)) then
  law06_lives.bind fun r_13 =>
  some ((r_13.1.1, ()), ())
 else
 (lex_Scan r_10.1.1).bind fun r_14 =>
 let t38_15 : Bool := !(isNil1 r_14.1.2.1)
 guardR (!t38_15) (some ()) () fun _ =>
 guardR (!t38_15) (some (r_14.1.1.length : Int)) 0 fun v_16 =>
 guardR (!t38_15) (some ()) () fun _ =>
 guardR (!t38_15) (some (r_4.1.1.length : Int)) 0 fun v_17 =>
 guardR (!t38_15) (some (!decide (v_16 = v_17))) false fun v_18 =>
 bif (bif t38_15 then true else v_18) then
  some ((false, ()), ())
 else
 loopR (fun (z : ((List (Int × (List Int) × Int × (Int × Int × Int × Unit) × Int × Unit)) × (List Int) × (List (Int × (List Int) × Int × (Int × Int × Int × Unit) × Int × Unit)) × Int × Unit) × (Unit)) => law06_LexBack_s0 z.1.1 z.1.2.1 z.1.2.2.1 z.1.2.2.2.1) ((r_4.1.1, r_10.1.1, r_14.1.1, 0, ()), ())

noncomputable def sg7 : Sig := ⟨[.val .str], [.val .bool], []⟩
noncomputable def sm7 : CSem := mkSem sg7 fun x => law06_LexBack x.1
noncomputable def cf7 : Cfg := cfs [(8, sem8), (9, sem9), (18, sem18)] 109 0 [(0, ⟨[(3, .own (.agg (.pair (.int .i64) (.pair .str (.pair (.int .i64) (.pair (.agg (.pair (.int .i64) (.pair (.int .u64) (.pair (.int .u64) .unit)))) (.pair (.int .i64) .unit)))))) false), (5, .dat .str), (6, .own (.agg (.pair (.int .i64) (.pair .str (.pair (.int .i64) (.pair (.agg (.pair (.int .i64) (.pair (.int .u64) (.pair (.int .u64) .unit)))) (.pair (.int .i64) .unit)))))) false), (8, .dat (.int .i64))], []⟩)]

noncomputable def sem7 : CSem := sm7

noncomputable def sg13 : Sig := ⟨[.val .nilp], [.val .str], []⟩
noncomputable def sm13 : CSem := mkSem sg13 fun x => lex_Fault_Error_d35 x.1
noncomputable def cf13 : Cfg := cfs [] 18 0 []

noncomputable def sg13a : Sig := ⟨[.val (.ptr (.agg (.pair (.int .i64) (.pair (.int .i64) .unit))))], [.val .str], []⟩
noncomputable def sm13a : CSem := mkSem sg13a fun x => lex_Fault_Error_bca x.1
noncomputable def cf13a : Cfg := cfs [(27, sem27)] 18 0 []

noncomputable def sem13 : CSem := orSem sm13 (sm13a)

noncomputable def law06_digits (n_0 : Int) : Option (((List Int) × Unit) × (Unit)) :=
 bif (decide (n_0 < 0)) then
  some (([], ()), ())
 else
 (ref01_Of 0 (IntKind.u64.wrap n_0)).bind fun r_3 =>
 (ref01_Text r_3.1.1 10).bind fun r_4 =>
 some ((r_4.1.1, ()), ())

noncomputable def sg14 : Sig := ⟨[.val (.int .i64)], [.val .str], []⟩
noncomputable def sm14 : CSem := mkSem sg14 fun x => law06_digits x.1
noncomputable def cf14 : Cfg := cfs [(29, sem29), (28, sem28)] 9 0 []

noncomputable def sem14 : CSem := sm14

noncomputable def sm15 : CSem := paySem 45

noncomputable def sem15 : CSem := sm15

noncomputable def law06_LexFaults (s_0 : List Int) : Option ((Bool × Unit) × (Unit)) :=
 let t15_2 : Bool := decide ((s_0.length : Int) > 1500)
 guardR t15_2 (some ()) () fun _ =>
 guardR t15_2 (some (s_0.length : Int)) 0 fun v_3 =>
 guardR t15_2 (some (decide (v_3 ≤ 16384))) false fun v_4 =>
 let t20_5 : Bool := bif t15_2 then v_4 else false
 guardR (!t20_5) (some ()) () fun _ =>
 guardR (!t20_5) (some (s_0.length : Int)) 0 fun v_6 =>
 guardR (!t20_5) (some (decide (v_6 > 20000))) false fun v_7 =>
 bif (bif t20_5 then true else v_7) then
  law06_lives.bind fun r_9 =>
  some ((r_9.1.1, ()), ())
 else
 (lex_Scan s_0).bind fun r_10 =>
 bif (isNil1 r_10.1.2.1) then
  (lex_Why_8d8 (.inr ())).bind fun r_12 =>
  let t39_13 : Bool := decide (r_12.1.1 = 0)
  guardR t39_13 (some ()) () fun _ =>
  guardR t39_13 (some (decide (r_12.1.2.1 = 0))) false fun v_14 =>
  let t43_15 : Bool := bif t39_13 then v_14 else false
  guardR t43_15 law06_lives ((false, ()), ()) fun r_16 =>
  some (((bif t43_15 then r_16.1.1 else false), ()), ())
 else
 let t50_18 : Option (Int × Int × Unit) := (getAlt0 r_10.1.2.1).getD none
 let t51_19 : Bool := (getAlt0 r_10.1.2.1).isSome
 guardR (!(!t51_19)) (some ()) () fun _ =>
 guardR (!(!t51_19)) (some (t50_18.isNone)) false fun v_20 =>
 bif (bif !t51_19 then true else v_20) then
  some ((false, ()), ())
 else
 (lex_Fault_Error_d35 ()).bind fun r_22 =>
 let t60_23 : Bool := !decide (r_22.1.1 = [])
 guardR (!t60_23) (some ()) () fun _ =>
 guardR (!t60_23) (lex_Fault_Error_bca t50_18) (([], ()), ()) fun r_24 =>
 guardR (!t60_23) (some ()) () fun _ =>
 guardR (!t60_23) t50_18 (0, 0, ()) fun v_25 =>
 guardR (!t60_23) (some v_25.1) 0 fun v_26 =>
 guardR (!t60_23) (some ()) () fun _ =>
 guardR (!t60_23) (law06_digits v_26) (([], ()), ()) fun r_27 =>
 guardR (!t60_23) (catI [102, 97, 117, 108, 116, 32] r_27.1.1) [] fun v_28 =>
 guardR (!t60_23) (catI v_28 [32, 97, 116, 32]) [] fun v_29 =>
 guardR (!t60_23) (some ()) () fun _ =>
 guardR (!t60_23) t50_18 (0, 0, ()) fun v_30 =>
 guardR (!t60_23) (some v_30.2.1) 0 fun v_31 =>
 guardR (!t60_23) (some ()) () fun _ =>
 guardR (!t60_23) (law06_digits v_31) (([], ()), ()) fun r_32 =>
 guardR (!t60_23) (catI v_29 r_32.1.1) [] fun v_33 =>
 guardR (!t60_23) (some (!decide (r_24.1.1 = v_33))) false fun v_34 =>
 bif (bif t60_23 then true else v_34) then
  some ((false, ()), ())
 else
 (getAlt0 r_10.1.2.1).bind fun v_36 =>
 (lex_Why_8d8 r_10.1.2.1).bind fun r_37 =>
 let t88_38 : Bool := v_36.isSome == t50_18.isSome
 guardR t88_38 (some ()) () fun _ =>
 guardR t88_38 t50_18 (0, 0, ()) fun v_39 =>
 guardR t88_38 (some v_39.1) 0 fun v_40 =>
 guardR t88_38 (some ()) () fun _ =>
 guardR t88_38 (some ()) () fun _ =>
 guardR t88_38 (some (decide (v_40 = r_37.1.1))) false fun v_41 =>
 let t96_42 : Bool := bif t88_38 then v_41 else false
 guardR t96_42 (some ()) () fun _ =>
 guardR t96_42 t50_18 (0, 0, ()) fun v_43 =>
 guardR t96_42 (some v_43.2.1) 0 fun v_44 =>
 guardR t96_42 (some ()) () fun _ =>
 guardR t96_42 (some ()) () fun _ =>
 guardR t96_42 (some (decide (v_44 = r_37.1.2.1))) false fun v_45 =>
 let t104_46 : Bool := bif t96_42 then v_45 else false
 guardR t104_46 (some ()) () fun _ =>
 guardR t104_46 (some (!decide (r_37.1.1 = 0))) false fun v_47 =>
 let t108_48 : Bool := bif t104_46 then v_47 else false
 guardR t108_48 (some ()) () fun _ =>
 guardR t108_48 (some (decide (r_37.1.2.1 ≥ 0))) false fun v_49 =>
 let t112_50 : Bool := bif t108_48 then v_49 else false
 guardR t112_50 (some ()) () fun _ =>
 guardR t112_50 (some ()) () fun _ =>
 guardR t112_50 (some (s_0.length : Int)) 0 fun v_51 =>
 guardR t112_50 (some (decide (r_37.1.2.1 ≤ v_51))) false fun v_52 =>
 let t118_53 : Bool := bif t112_50 then v_52 else false
 guardR t118_53 law06_lives ((false, ()), ()) fun r_54 =>
 some (((bif t118_53 then r_54.1.1 else false), ()), ())

noncomputable def sg5 : Sig := ⟨[.val .str], [.val .bool], []⟩
noncomputable def sm5 : CSem := mkSem sg5 fun x => law06_LexFaults x.1
noncomputable def cf5 : Cfg := cfs [(8, sem8), (9, sem9), (11, sem11), (13, sem13), (14, sem14), (15, sem15)] 122 0 []

noncomputable def sem5 : CSem := sm5

end Go.Proofs.YtkpiocglghnnhaaDoor

namespace Go.Proofs.YtkpiocglghnnhaaDoor
open Go Go.Pv Go.Proofs Go.L
set_option maxRecDepth 100000

theorem r78 (x : ArgT ag78) : runFAM cf78 ag78 al78 (bodyOf Tryd.f78) [(4, some 96), (5, none), (6, none)] x = word_Div x.1 x.2.1 := by kernel_rfl

theorem r93 (x : ArgT ag93) : runFAM cf93 ag93 al93 (bodyOf Tryd.f93) [(6, some 31), (7, none)] x = vec_New x.1 x.2.1 x.2.2.1 := by kernel_rfl

theorem r104 (x : ArgT sg104.args) : runFM cf104 sg104 (bodyOf Tryd.f104) [2, 3] x = unicode_utf8_decodeRuneInStringSlow x.1 := by kernel_rfl

theorem r53 (x : ArgT ag53) : runFAM cf53 ag53 al53 (bodyOf Tryd.f53) [(4, some 67), (5, some 67)] x = ref01_Part x.1 x.2.1 := by kernel_rfl

theorem r72 (x : ArgT ag72) : runFAM cf72 ag72 al72 (bodyOf Tryd.f72) [(4, some 96), (5, none)] x = word_Parse x.1 x.2.1 := by kernel_rfl

theorem r98 (x : ArgT ag98) : runFAM cf98 ag98 al98 (bodyOf Tryd.f98) [(4, some 96), (5, none)] x = word_Add x.1 x.2.1 := by kernel_rfl

theorem r66 (x : ArgT sg66.args) : runFM cf66 sg66 (bodyOf Tryd.f66) [4, 5, 6] x = internal_stringslite_Cut x.1 x.2.1 := by kernel_rfl

theorem r48 (x : ArgT ag48) : runFAM cf48 ag48 al48 (bodyOf Tryd.f48) [(2, some 31), (3, none)] x = ref02_Parse x.1 := by kernel_rfl

theorem r64 (x : ArgT sg64.args) : runFM cf64 sg64 (bodyOf Tryd.f64) [4] x = strings_trimLeftUnicode x.1 x.2.1 := by kernel_rfl

theorem r79 (x : ArgT ag79) : runFAM cf79 ag79 al79 (bodyOf Tryd.f79) [(4, some 67)] x = ref01_Moved x.1 x.2.1 := by kernel_rfl

theorem r110 (x : ArgT sg110.args) : runFM cf110 sg110 (bodyOf Tryd.f110) [2] x = bits_LeadingZeros64 x.1 := by kernel_rfl

theorem r109 (x : ArgT sg109.args) : runFM cf109 sg109 (bodyOf Tryd.f109) [4, 5] x = bits_Mul64 x.1 x.2.1 := by kernel_rfl

theorem r67 (x : ArgT sg67.args) : runFM cf67 sg67 (bodyOf Tryd.f67) [4] x = strings_IndexRune x.1 x.2.1 := by kernel_rfl

theorem r74 (x : ArgT sg74.args) : runFM cf74 sg74 (bodyOf Tryd.f74) [4] x = ref01_Less x.1 x.2.1 := by kernel_rfl

theorem r28 (x : ArgT sg28.args) : runFM cf28 sg28 (bodyOf Tryd.f28) [4] x = ref01_Text x.1 x.2.1 := by kernel_rfl

theorem r101 (x : ArgT sg101.args) : runFM cf101 sg101 (bodyOf Tryd.f101) [2] x = bits_Len64 x.1 := by kernel_rfl

theorem r43 (x : ArgT sg43.args) : runFM cf43 sg43 (bodyOf Tryd.f43) [2] x = name_Digit x.1 := by kernel_rfl

theorem r77 (x : ArgT sg77.args) : runFM cf77 sg77 (bodyOf Tryd.f77) [2] x = word_based x.1 := by kernel_rfl

theorem r30 (x : ArgT sg30.args) : runFM cf30 sg30 (bodyOf Tryd.f30) [2] x = ref02_Text x.1 := by kernel_rfl

theorem r27 (x : ArgT sg27.args) : runFM cf27 sg27 (bodyOf Tryd.f27) [2] x = lex_digits x.1 := by kernel_rfl

theorem r41 (x : ArgT sg41.args) : runFM cf41 sg41 (bodyOf Tryd.f41) [2] x = lex_inner x.1 := by kernel_rfl

theorem r4 (x : ArgT sg4.args) : runFM cf4 sg4 (bodyOf Tryd.f4) [2] x = law06_LexScans x.1 := by kernel_rfl

theorem r17 (x : ArgT sg17.args) : runFM cf17 sg17 (bodyOf Tryd.f17) [2] x = lex_Text x.1 := by kernel_rfl

theorem r56 (x : ArgT sg56.args) : runFM cf56 sg56 (bodyOf Tryd.f56) [2] x = vec_May x.1 := by kernel_rfl

theorem r9 (x : ArgT sg9.args) : runFM cf9 sg9 (bodyOf Tryd.f9) [2, 3] x = lex_Scan x.1 := by kernel_rfl

end Go.Proofs.YtkpiocglghnnhaaDoor

namespace Go.Proofs.YtkpiocglghnnhaaDoor
open Go Go.Pv Go.Proofs Go.L
set_option maxRecDepth 100000

theorem r20 (x : ArgT ag20) : runFAM cf20 ag20 al20 (bodyOf Tryd.f20) [(4, some 33), (5, none), (6, none)] x = lex_one x.1 x.2.1 := by kernel_rfl

theorem r26 (x : ArgT ag26) : runFAM cf26 ag26 al26 (bodyOf Tryd.f26) [(4, some 43), (5, none)] x = ref06_Number x.1 x.2.1 := by kernel_rfl

theorem r65 (x : ArgT sg65.args) : runFM cf65 sg65 (bodyOf Tryd.f65) [4] x = internal_stringslite_HasPrefix x.1 x.2.1 := by kernel_rfl

theorem r86 (x : ArgT sg86.args) : runFM cf86 sg86 (bodyOf Tryd.f86) [2, 3] x = unicode_utf8_DecodeRuneInString x.1 := by kernel_rfl

theorem r87 (x : ArgT sg87.args) : runFM cf87 sg87 (bodyOf Tryd.f87) [4] x = internal_stringslite_Index x.1 x.2.1 := by kernel_rfl

theorem r70 (x : ArgT ag70) : runFAM cf70 ag70 al70 (bodyOf Tryd.f70) [(2, some 31), (3, none)] x = vec_Parse x.1 := by kernel_rfl

theorem r85 (x : ArgT sg85.args) : runFM cf85 sg85 (bodyOf Tryd.f85) [4] x = strings_asciiSet_contains x.1 x.2.1 := by kernel_rfl

theorem r76 (x : ArgT ag76) : runFAM cf76 ag76 al76 (bodyOf Tryd.f76) [(4, some 67)] x = ref01_Product x.1 x.2.1 := by kernel_rfl

theorem r61 (x : ArgT sg61.args) : runFM cf61 sg61 (bodyOf Tryd.f61) [4] x = strings_trimLeftByte x.1 x.2.1 := by kernel_rfl

theorem r68 (x : ArgT sg68.args) : runFM cf68 sg68 (bodyOf Tryd.f68) [6] x = name_between x.1 x.2.1 x.2.2.1 := by kernel_rfl

theorem r71 (x : ArgT sg71.args) : runFM cf71 sg71 (bodyOf Tryd.f71) [4, 5] x = strings_CutPrefix x.1 x.2.1 := by kernel_rfl

theorem r3 (x : ArgT sg3.args) : runFM cf3 sg3 (bodyOf Tryd.f3) [6] x = law06_LexRemarks x.1 x.2.1 x.2.2.1 := by kernel_rfl

theorem r97 (x : ArgT sg97.args) : runFM cf97 sg97 (bodyOf Tryd.f97) [4] x = word_Cmp x.1 x.2.1 := by kernel_rfl

theorem r22 (x : ArgT sg22.args) : runFM cf22 sg22 (bodyOf Tryd.f22) [2, 3] x = ref05_First x.1 := by kernel_rfl

theorem r81 (x : ArgT sg81.args) : runFM cf81 sg81 (bodyOf Tryd.f81) [2] x = vec_width x.1 := by kernel_rfl

theorem r25 (x : ArgT sg25.args) : runFM cf25 sg25 (bodyOf Tryd.f25) [2] x = ref05_May x.1 := by kernel_rfl

theorem r19 (x : ArgT sg19.args) : runFM cf19 sg19 (bodyOf Tryd.f19) [2] x = lex_skip x.1 := by kernel_rfl

theorem r82 (x : ArgT sg82.args) : runFM cf82 sg82 (bodyOf Tryd.f82) [2] x = word_Len x.1 := by kernel_rfl

theorem r31 (x : ArgT sg31.args) : runFM cf31 sg31 (bodyOf Tryd.f31) [2] x = vec_Text x.1 := by kernel_rfl

theorem r7 (x : ArgT sg7.args) : runFM cf7 sg7 (bodyOf Tryd.f7) [2] x = law06_LexBack x.1 := by kernel_rfl

end Go.Proofs.YtkpiocglghnnhaaDoor

namespace Go.Proofs.YtkpiocglghnnhaaDoor
open Go Go.Pv Go.Proofs Go.L
set_option maxRecDepth 100000

theorem r75 (x : ArgT ag75) : runFAM cf75 ag75 al75 (bodyOf Tryd.f75) [(6, some 67), (7, none)] x = ref01_Sum x.1 x.2.1 x.2.2.1 := by kernel_rfl

theorem r94 (x : ArgT sg94.args) : runFM cf94 sg94 (bodyOf Tryd.f94) [4, 5] x = internal_stringslite_CutPrefix x.1 x.2.1 := by kernel_rfl

theorem r45 (x : ArgT ag45) : runFAM cf45 ag45 al45 (bodyOf Tryd.f45) [(4, some 33), (5, none)] x = lex_number x.1 x.2.1 := by kernel_rfl

theorem r100 (x : ArgT sg100.args) : runFM cf100 sg100 (bodyOf Tryd.f100) [6, 7] x = bits_Div64 x.1 x.2.1 x.2.2.1 := by kernel_rfl

theorem r73 (x : ArgT ag73) : runFAM cf73 ag73 al73 (bodyOf Tryd.f73) [(2, some 67)] x = ref01_Turned x.1 := by kernel_rfl

theorem r54 (x : ArgT ag54) : runFAM cf54 ag54 al54 (bodyOf Tryd.f54) [(2, some 67)] x = ref01_small x.1 := by kernel_rfl

theorem r13a (x : ArgT sg13a.args) : runFM cf13a sg13a (bodyOf Tryd.f13) [2] x = lex_Fault_Error_bca x.1 := by kernel_rfl

theorem r33 (x : ArgT sg33.args) : runFM cf33 sg33 (bodyOf Tryd.f33) [4] x = strings_TrimLeft x.1 x.2.1 := by kernel_rfl

theorem r12 (x : ArgT sg12.args) : runFM cf12 sg12 (bodyOf Tryd.f12) [4] x = law06_alike x.1 x.2.1 := by kernel_rfl

theorem r10 (x : ArgT sg10.args) : runFM cf10 sg10 (bodyOf Tryd.f10) [2, 3, 4] x = ref06_Scan x.1 := by kernel_rfl

theorem r14 (x : ArgT sg14.args) : runFM cf14 sg14 (bodyOf Tryd.f14) [2] x = law06_digits x.1 := by kernel_rfl

theorem r39 (x : ArgT sg39.args) : runFM cf39 sg39 (bodyOf Tryd.f39) [2] x = name_Letter x.1 := by kernel_rfl

theorem r24 (x : ArgT sg24.args) : runFM cf24 sg24 (bodyOf Tryd.f24) [2] x = ref06_digit x.1 := by kernel_rfl

theorem r36 (x : ArgT sg36.args) : runFM cf36 sg36 (bodyOf Tryd.f36) [2] x = name_Runes x.1 := by kernel_rfl

theorem r95 (x : ArgT sg95.args) : runFM cf95 sg95 (bodyOf Tryd.f95) [2] x = word_digit x.1 := by kernel_rfl

theorem r5 (x : ArgT sg5.args) : runFM cf5 sg5 (bodyOf Tryd.f5) [2] x = law06_LexFaults x.1 := by kernel_rfl

theorem r42 (x : ArgT sg42.args) : runFM cf42 sg42 (bodyOf Tryd.f42) [2] x = name_May x.1 := by kernel_rfl

theorem r8 (x : ArgT sg8.args) : runFM cf8 sg8 (bodyOf Tryd.f8) [0] x = law06_lives := by kernel_rfl

end Go.Proofs.YtkpiocglghnnhaaDoor

namespace Go.Proofs.YtkpiocglghnnhaaDoor
open Go Go.Pv Go.Proofs Go.L
set_option maxRecDepth 100000

theorem r62 (x : ArgT ag62) : runFAM cf62 ag62 al62 (bodyOf Tryd.f62) [(2, some 111), (3, none)] x = strings_makeASCIISet x.1 := by kernel_rfl

theorem r107 (x : ArgT ag107) : runFAM cf107 ag107 al107 (bodyOf Tryd.f107) [(4, some 96), (5, none)] x = word_Sub x.1 x.2.1 := by kernel_rfl

theorem r105 (x : ArgT sg105.args) : runFM cf105 sg105 (bodyOf Tryd.f105) [4] x = internal_stringslite_IndexByte x.1 x.2.1 := by kernel_rfl

theorem r80 (x : ArgT ag80) : runFAM cf80 ag80 al80 (bodyOf Tryd.f80) [(4, some 67), (5, none)] x = ref01_Minus x.1 x.2.1 := by kernel_rfl

theorem r49 (x : ArgT ag49) : runFAM cf49 ag49 al49 (bodyOf Tryd.f49) [(4, some 67), (5, none)] x = ref01_Parse x.1 x.2.1 := by kernel_rfl

theorem r63 (x : ArgT sg63.args) : runFM cf63 sg63 (bodyOf Tryd.f63) [4] x = strings_trimLeftASCII x.1 x.2.1 := by kernel_rfl

theorem r38 (x : ArgT sg38.args) : runFM cf38 sg38 (bodyOf Tryd.f38) [4] x = strings_ContainsRune x.1 x.2.1 := by kernel_rfl

theorem r99 (x : ArgT ag99) : runFAM cf99 ag99 al99 (bodyOf Tryd.f99) [(4, some 96)] x = word_Mul x.1 x.2.1 := by kernel_rfl

theorem r29 (x : ArgT ag29) : runFAM cf29 ag29 al29 (bodyOf Tryd.f29) [(4, some 67)] x = ref01_Of x.1 x.2.1 := by kernel_rfl

theorem r88 (x : ArgT sg88.args) : runFM cf88 sg88 (bodyOf Tryd.f88) [4] x = strings_IndexByte x.1 x.2.1 := by kernel_rfl

theorem r34 (x : ArgT sg34.args) : runFM cf34 sg34 (bodyOf Tryd.f34) [4] x = strings_HasPrefix x.1 x.2.1 := by kernel_rfl

theorem r35 (x : ArgT sg35.args) : runFM cf35 sg35 (bodyOf Tryd.f35) [4, 5, 6] x = strings_Cut x.1 x.2.1 := by kernel_rfl

theorem r89 (x : ArgT sg89.args) : runFM cf89 sg89 (bodyOf Tryd.f89) [2] x = unicode_utf8_ValidRune x.1 := by kernel_rfl

theorem r69 (x : ArgT sg69.args) : runFM cf69 sg69 (bodyOf Tryd.f69) [4] x = strings_Contains x.1 x.2.1 := by kernel_rfl

theorem r96 (x : ArgT ag96) : runFAM cf96 ag96 al96 (bodyOf Tryd.f96) [(2, some 96)] x = word_Not x.1 := by kernel_rfl

theorem r57 (x : ArgT ag57) : runFAM cf57 ag57 al57 (bodyOf Tryd.f57) [(2, some 96)] x = vec_Word x.1 := by kernel_rfl

theorem r92 (x : ArgT sg92.args) : runFM cf92 sg92 (bodyOf Tryd.f92) [4] x = strings_Index x.1 x.2.1 := by kernel_rfl

theorem r13 (x : ArgT sg13.args) : runFM cf13 sg13 (bodyOf Tryd.f13) [2] x = lex_Fault_Error_d35 x.1 := by kernel_rfl

theorem r40a (x : ArgT sg40a.args) : runFM cf40a sg40a (bodyOf Tryd.f40) [4] x = lex_long_b62 x.1 := by kernel_rfl

theorem r21 (x : ArgT sg21.args) : runFM cf21 sg21 (bodyOf Tryd.f21) [4] x = ref06_Skip x.1 x.2.1 := by kernel_rfl

theorem r37 (x : ArgT sg37.args) : runFM cf37 sg37 (bodyOf Tryd.f37) [4] x = name_Clip x.1 x.2.1 := by kernel_rfl

theorem r51 (x : ArgT sg51.args) : runFM cf51 sg51 (bodyOf Tryd.f51) [2, 3] x = ref01_Halves x.1 := by kernel_rfl

theorem r52 (x : ArgT sg52.args) : runFM cf52 sg52 (bodyOf Tryd.f52) [4] x = word_Text x.1 x.2.1 := by kernel_rfl

theorem r11 (x : ArgT sg11.args) : runFM cf11 sg11 (bodyOf Tryd.f11) [2, 3] x = lex_Why_8d8 x.1 := by kernel_rfl

theorem r40 (x : ArgT sg40.args) : runFM cf40 sg40 (bodyOf Tryd.f40) [4] x = lex_long_8cc x.1 := by kernel_rfl

theorem r23 (x : ArgT sg23.args) : runFM cf23 sg23 (bodyOf Tryd.f23) [2] x = ref05_Letter x.1 := by kernel_rfl

theorem r47 (x : ArgT sg47.args) : runFM cf47 sg47 (bodyOf Tryd.f47) [2] x = ref05_Runes x.1 := by kernel_rfl

theorem r46 (x : ArgT sg46.args) : runFM cf46 sg46 (bodyOf Tryd.f46) [2] x = ref05_more x.1 := by kernel_rfl

theorem r16 (x : ArgT sg16.args) : runFM cf16 sg16 (bodyOf Tryd.f16) [2] x = ref06_Text x.1 := by kernel_rfl

theorem r44 (x : ArgT sg44.args) : runFM cf44 sg44 (bodyOf Tryd.f44) [2] x = lex_one_1 x.1 := by kernel_rfl

theorem r50 (x : ArgT sg50.args) : runFM cf50 sg50 (bodyOf Tryd.f50) [2] x = ref01_Len x.1 := by kernel_rfl

theorem r55 (x : ArgT sg55.args) : runFM cf55 sg55 (bodyOf Tryd.f55) [2] x = ref02_May x.1 := by kernel_rfl

theorem r6 (x : ArgT sg6.args) : runFM cf6 sg6 (bodyOf Tryd.f6) [2] x = law06_LexTexts x.1 := by kernel_rfl

theorem r18 (x : ArgT sg18.args) : runFM cf18 sg18 (bodyOf Tryd.f18) [2] x = lex_Join x.1 := by kernel_rfl

end Go.Proofs.YtkpiocglghnnhaaDoor
