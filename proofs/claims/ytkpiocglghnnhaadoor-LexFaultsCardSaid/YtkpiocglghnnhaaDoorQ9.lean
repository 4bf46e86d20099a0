/- The functions of this seat, and the laws as plain Lean. -/
import Derived.Test.YtkpiocglghnnhaaDoorProg
import Derived.Test.YtkpiocglghnnhaaDoorQ8

set_option linter.unusedSimpArgs false
set_option linter.unusedVariables false

namespace Go.Proofs.YtkpiocglghnnhaaDoor
open Go Go.Pv Go.Proofs Go.Shelf
set_option maxRecDepth 100000

def lays156_ren : Go.Shelf.Ren := ⟨fun | 156 => 32 | 165 => 58 | 166 => 59 | 169 => 60 | 240 => 83 | 241 => 84 | 276 => 102 | 277 => 103 | n => n, fun | 31 => 70 | 9 => 9 | 3 => 3 | 4 => 4 | 0 => 0 | 20 => 20 | 72 => 105 | 76 => 107 | 70 => 102 | 37 => 103 | 75 => 25 | 127 => 132 | 164 => 148 | 5 => 5 | 80 => 47 | n => n, fun | n => n⟩
theorem lays156 : Go.Proofs.Lays.n156 Tryd.prog lays156_ren := {
 mixed := by kernel_rfl,
 f156 := Tryd.func32.trans (congrArg some (by kernel_rfl)),
 f165 := Tryd.func58.trans (congrArg some (by kernel_rfl)),
 f166 := Tryd.func59.trans (congrArg some (by kernel_rfl)),
 f169 := Tryd.func60.trans (congrArg some (by kernel_rfl)),
 f240 := Tryd.func83.trans (congrArg some (by kernel_rfl)),
 f241 := Tryd.func84.trans (congrArg some (by kernel_rfl)),
 f276 := Tryd.func102.trans (congrArg some (by kernel_rfl)),
 f277 := Tryd.func103.trans (congrArg some (by kernel_rfl)),
 t0 := Tryd.underlying0,
 a0 := Tryd.isAgg0,
 z0 := Tryd.sizeOf0,
 v0 := Tryd.zeroValue0,
 t3 := Tryd.underlying3,
 a3 := Tryd.isAgg3,
 z3 := Tryd.sizeOf3,
 v3 := Tryd.zeroValue3,
 t4 := Tryd.underlying4,
 a4 := Tryd.isAgg4,
 z4 := Tryd.sizeOf4,
 v4 := Tryd.zeroValue4,
 t9 := Tryd.underlying9,
 a9 := Tryd.isAgg9,
 z9 := Tryd.sizeOf9,
 v9 := Tryd.zeroValue9,
 t20 := Tryd.underlying20,
 a20 := Tryd.isAgg20,
 z20 := Tryd.sizeOf20,
 v20 := Tryd.zeroValue20,
 t31 := Tryd.underlying70,
 a31 := Tryd.isAgg70,
 z31 := Tryd.sizeOf70,
 v31 := Tryd.zeroValue70,
 t37 := Tryd.underlying103,
 a37 := Tryd.isAgg103,
 z37 := Tryd.sizeOf103,
 v37 := Tryd.zeroValue103,
 t70 := Tryd.underlying102,
 a70 := Tryd.isAgg102,
 z70 := Tryd.sizeOf102,
 v70 := Tryd.zeroValue102,
 t72 := Tryd.underlying105,
 a72 := Tryd.isAgg105,
 z72 := Tryd.sizeOf105,
 v72 := Tryd.zeroValue105,
 t75 := Tryd.underlying25,
 a75 := Tryd.isAgg25,
 z75 := Tryd.sizeOf25,
 v75 := Tryd.zeroValue25,
 t76 := Tryd.underlying107,
 a76 := Tryd.isAgg107,
 z76 := Tryd.sizeOf107,
 v76 := Tryd.zeroValue107,
 t127 := Tryd.underlying132,
 a127 := Tryd.isAgg132,
 z127 := Tryd.sizeOf132,
 v127 := Tryd.zeroValue132,
 t164 := Tryd.underlying148,
 a164 := Tryd.isAgg148,
 z164 := Tryd.sizeOf148,
 v164 := Tryd.zeroValue148 }

theorem extra156 : Builder.Extra Tryd.prog lays156_ren := {
 sizeBuilder := by kernel_rfl,
 liesBuilder := by kernel_rfl,
 t5 := Tryd.underlying5,
 a5 := Tryd.isAgg5,
 z5 := Tryd.sizeOf5,
 v5 := Tryd.zeroValue5,
 infoByte := by kernel_rfl,
 cellsByte := by kernel_rfl,
 sizeByte := by kernel_rfl,
 neB5 := by decide }

theorem pay15 : PayC Tryd.prog 15 45 := fun w v => by
 refine .inl ⟨run_callFunc_body Tryd.func15 (by kernel_rfl) (by kernel_rfl) _ w, ?_⟩
 have hT : ∀ w, (Instr.typeAssert (.iface 45 v) 25 45 false).run Tryd.prog w = .ok v w := fun w => by
  simp only [Instr.typeAssert, underlying, Sem.run_bind, run_program, Result.andThen_ok, Tryd.underlying45, Sem.run_pure]
  simp
 go_enter Tryd.func15, Tryd.ntmps15
 go_wp2
 go_ret
 exact ⟨rfl, rfl⟩

end Go.Proofs.YtkpiocglghnnhaaDoor

namespace Go.Proofs.YtkpiocglghnnhaaDoor
open Go Go.Pv Go.Proofs Go.L
set_option maxRecDepth 100000

theorem c61 : Contract Tryd.prog 61 sm61 :=
 contract_ofM (C := cf61) (fun f sem h => (Tab.nil : Tab _) _ (lk_mem' h)) (S := sg61) (fn := Tryd.f61) (c := bodyOf Tryd.f61) (ts := [4]) Tryd.func61 (by kernel_rfl) (by kernel_rfl) (by kernel_rfl) (by kernel_rfl) (by kernel_rfl) (by kernel_rfl) (by kernel_rfl) r61

theorem k61 : Contract Tryd.prog 61 sem61 := c61

theorem c62 : Contract Tryd.prog 62 sm62 :=
 contract_ofAM (C := cf62) (fun f sem h => (Tab.nil : Tab _) _ (lk_mem' h)) (args := ag62) (alts := al62) (fn := Tryd.f62) (c := bodyOf Tryd.f62) (ts := [(2, some 111), (3, none)]) Tryd.func62 (by kernel_rfl) (by kernel_rfl) (by kernel_rfl) (by kernel_rfl) (by kernel_rfl) (by kernel_rfl) (by kernel_rfl) r62

theorem k62 : Contract Tryd.prog 62 sem62 := c62

theorem c85 : Contract Tryd.prog 85 sm85 :=
 contract_ofM (C := cf85) (fun f sem h => (Tab.nil : Tab _) _ (lk_mem' h)) (S := sg85) (fn := Tryd.f85) (c := bodyOf Tryd.f85) (ts := [4]) Tryd.func85 (by kernel_rfl) (by kernel_rfl) (by kernel_rfl) (by kernel_rfl) (by kernel_rfl) (by kernel_rfl) (by kernel_rfl) r85

theorem k85 : Contract Tryd.prog 85 sem85 := c85

theorem c63 : Contract Tryd.prog 63 sm63 :=
 contract_ofM (C := cf63) (fun f sem h => (Tab.cons k85 Tab.nil : Tab _) _ (lk_mem' h)) (S := sg63) (fn := Tryd.f63) (c := bodyOf Tryd.f63) (ts := [4]) Tryd.func63 (by kernel_rfl) (by kernel_rfl) (by kernel_rfl) (by kernel_rfl) (by kernel_rfl) (by kernel_rfl) (by kernel_rfl) r63

theorem k63 : Contract Tryd.prog 63 sem63 := c63

theorem c104 : Contract Tryd.prog 104 sm104 :=
 contract_ofM (C := cf104) (fun f sem h => (Tab.nil : Tab _) _ (lk_mem' h)) (S := sg104) (fn := Tryd.f104) (c := bodyOf Tryd.f104) (ts := [2, 3]) Tryd.func104 (by kernel_rfl) (by kernel_rfl) (by kernel_rfl) (by kernel_rfl) (by kernel_rfl) (by kernel_rfl) (by kernel_rfl) r104

theorem k104 : Contract Tryd.prog 104 sem104 := c104

theorem c86 : Contract Tryd.prog 86 sm86 :=
 contract_ofM (C := cf86) (fun f sem h => (Tab.cons k104 Tab.nil : Tab _) _ (lk_mem' h)) (S := sg86) (fn := Tryd.f86) (c := bodyOf Tryd.f86) (ts := [2, 3]) Tryd.func86 (by kernel_rfl) (by kernel_rfl) (by kernel_rfl) (by kernel_rfl) (by kernel_rfl) (by kernel_rfl) (by kernel_rfl) r86

theorem k86 : Contract Tryd.prog 86 sem86 := c86

theorem c111 : Contract Tryd.prog 111 sm111 := index_contract Tryd.func111 (by kernel_rfl) (by kernel_rfl) (by kernel_rfl) (by kernel_rfl)

theorem k111 : Contract Tryd.prog 111 sem111 := c111

theorem c105 : Contract Tryd.prog 105 sm105 :=
 contract_ofM (C := cf105) (fun f sem h => (Tab.cons k111 Tab.nil : Tab _) _ (lk_mem' h)) (S := sg105) (fn := Tryd.f105) (c := bodyOf Tryd.f105) (ts := [4]) Tryd.func105 (by kernel_rfl) (by kernel_rfl) (by kernel_rfl) (by kernel_rfl) (by kernel_rfl) (by kernel_rfl) (by kernel_rfl) r105

theorem k105 : Contract Tryd.prog 105 sem105 := c105

theorem c88 : Contract Tryd.prog 88 sm88 :=
 contract_ofM (C := cf88) (fun f sem h => (Tab.cons k105 Tab.nil : Tab _) _ (lk_mem' h)) (S := sg88) (fn := Tryd.f88) (c := bodyOf Tryd.f88) (ts := [4]) Tryd.func88 (by kernel_rfl) (by kernel_rfl) (by kernel_rfl) (by kernel_rfl) (by kernel_rfl) (by kernel_rfl) (by kernel_rfl) r88

theorem k88 : Contract Tryd.prog 88 sem88 := c88

theorem c89 : Contract Tryd.prog 89 sm89 :=
 contract_ofM (C := cf89) (fun f sem h => (Tab.nil : Tab _) _ (lk_mem' h)) (S := sg89) (fn := Tryd.f89) (c := bodyOf Tryd.f89) (ts := [2]) Tryd.func89 (by kernel_rfl) (by kernel_rfl) (by kernel_rfl) (by kernel_rfl) (by kernel_rfl) (by kernel_rfl) (by kernel_rfl) r89

theorem k89 : Contract Tryd.prog 89 sem89 := c89

theorem c67 : Contract Tryd.prog 67 sm67 :=
 contract_ofM (C := cf67) (fun f sem h => (Tab.cons k88 (Tab.cons k89 Tab.nil) : Tab _) _ (lk_mem' h)) (S := sg67) (fn := Tryd.f67) (c := bodyOf Tryd.f67) (ts := [4]) Tryd.func67 (by kernel_rfl) (by kernel_rfl) (by kernel_rfl) (by kernel_rfl) (by kernel_rfl) (by kernel_rfl) (by kernel_rfl) r67

theorem k67 : Contract Tryd.prog 67 sem67 := c67

theorem c38 : Contract Tryd.prog 38 sm38 :=
 contract_ofM (C := cf38) (fun f sem h => (Tab.cons k67 Tab.nil : Tab _) _ (lk_mem' h)) (S := sg38) (fn := Tryd.f38) (c := bodyOf Tryd.f38) (ts := [4]) Tryd.func38 (by kernel_rfl) (by kernel_rfl) (by kernel_rfl) (by kernel_rfl) (by kernel_rfl) (by kernel_rfl) (by kernel_rfl) r38

theorem k38 : Contract Tryd.prog 38 sem38 := c38

theorem c64 : Contract Tryd.prog 64 sm64 :=
 contract_ofM (C := cf64) (fun f sem h => (Tab.cons k86 (Tab.cons k38 Tab.nil) : Tab _) _ (lk_mem' h)) (S := sg64) (fn := Tryd.f64) (c := bodyOf Tryd.f64) (ts := [4]) Tryd.func64 (by kernel_rfl) (by kernel_rfl) (by kernel_rfl) (by kernel_rfl) (by kernel_rfl) (by kernel_rfl) (by kernel_rfl) r64

theorem k64 : Contract Tryd.prog 64 sem64 := c64

theorem c33 : Contract Tryd.prog 33 sm33 :=
 contract_ofM (C := cf33) (fun f sem h => (Tab.cons k61 (Tab.cons k62 (Tab.cons k63 (Tab.cons k64 Tab.nil))) : Tab _) _ (lk_mem' h)) (S := sg33) (fn := Tryd.f33) (c := bodyOf Tryd.f33) (ts := [4]) Tryd.func33 (by kernel_rfl) (by kernel_rfl) (by kernel_rfl) (by kernel_rfl) (by kernel_rfl) (by kernel_rfl) (by kernel_rfl) r33

theorem k33 : Contract Tryd.prog 33 sem33 := c33

theorem c65 : Contract Tryd.prog 65 sm65 :=
 contract_ofM (C := cf65) (fun f sem h => (Tab.nil : Tab _) _ (lk_mem' h)) (S := sg65) (fn := Tryd.f65) (c := bodyOf Tryd.f65) (ts := [4]) Tryd.func65 (by kernel_rfl) (by kernel_rfl) (by kernel_rfl) (by kernel_rfl) (by kernel_rfl) (by kernel_rfl) (by kernel_rfl) r65

theorem k65 : Contract Tryd.prog 65 sem65 := c65

theorem c34 : Contract Tryd.prog 34 sm34 :=
 contract_ofM (C := cf34) (fun f sem h => (Tab.cons k65 Tab.nil : Tab _) _ (lk_mem' h)) (S := sg34) (fn := Tryd.f34) (c := bodyOf Tryd.f34) (ts := [4]) Tryd.func34 (by kernel_rfl) (by kernel_rfl) (by kernel_rfl) (by kernel_rfl) (by kernel_rfl) (by kernel_rfl) (by kernel_rfl) r34

theorem k34 : Contract Tryd.prog 34 sem34 := c34

theorem c87 : Contract Tryd.prog 87 sm87 :=
 contract_ofM (C := cf87) (fun f sem h => (Tab.cons k105 Tab.nil : Tab _) _ (lk_mem' h)) (S := sg87) (fn := Tryd.f87) (c := bodyOf Tryd.f87) (ts := [4]) Tryd.func87 (by kernel_rfl) (by kernel_rfl) (by kernel_rfl) (by kernel_rfl) (by kernel_rfl) (by kernel_rfl) (by kernel_rfl) r87

theorem k87 : Contract Tryd.prog 87 sem87 := c87

theorem c66 : Contract Tryd.prog 66 sm66 :=
 contract_ofM (C := cf66) (fun f sem h => (Tab.cons k87 Tab.nil : Tab _) _ (lk_mem' h)) (S := sg66) (fn := Tryd.f66) (c := bodyOf Tryd.f66) (ts := [4, 5, 6]) Tryd.func66 (by kernel_rfl) (by kernel_rfl) (by kernel_rfl) (by kernel_rfl) (by kernel_rfl) (by kernel_rfl) (by kernel_rfl) r66

theorem k66 : Contract Tryd.prog 66 sem66 := c66

theorem c35 : Contract Tryd.prog 35 sm35 :=
 contract_ofM (C := cf35) (fun f sem h => (Tab.cons k66 Tab.nil : Tab _) _ (lk_mem' h)) (S := sg35) (fn := Tryd.f35) (c := bodyOf Tryd.f35) (ts := [4, 5, 6]) Tryd.func35 (by kernel_rfl) (by kernel_rfl) (by kernel_rfl) (by kernel_rfl) (by kernel_rfl) (by kernel_rfl) (by kernel_rfl) r35

theorem k35 : Contract Tryd.prog 35 sem35 := c35

theorem c19 : Contract Tryd.prog 19 sm19 :=
 contract_ofM (C := cf19) (fun f sem h => (Tab.cons k33 (Tab.cons k34 (Tab.cons k35 Tab.nil)) : Tab _) _ (lk_mem' h)) (S := sg19) (fn := Tryd.f19) (c := bodyOf Tryd.f19) (ts := [2]) Tryd.func19 (by kernel_rfl) (by kernel_rfl) (by kernel_rfl) (by kernel_rfl) (by kernel_rfl) (by kernel_rfl) (by kernel_rfl) r19

theorem k19 : Contract Tryd.prog 19 sem19 := c19

theorem c37 : Contract Tryd.prog 37 sm37 :=
 contract_ofM (C := cf37) (fun f sem h => (Tab.nil : Tab _) _ (lk_mem' h)) (S := sg37) (fn := Tryd.f37) (c := bodyOf Tryd.f37) (ts := [4]) Tryd.func37 (by kernel_rfl) (by kernel_rfl) (by kernel_rfl) (by kernel_rfl) (by kernel_rfl) (by kernel_rfl) (by kernel_rfl) r37

theorem k37 : Contract Tryd.prog 37 sem37 := c37

theorem c36 : Contract Tryd.prog 36 sm36 :=
 contract_ofM (C := cf36) (fun f sem h => (Tab.nil : Tab _) _ (lk_mem' h)) (S := sg36) (fn := Tryd.f36) (c := bodyOf Tryd.f36) (ts := [2]) Tryd.func36 (by kernel_rfl) (by kernel_rfl) (by kernel_rfl) (by kernel_rfl) (by kernel_rfl) (by kernel_rfl) (by kernel_rfl) r36

theorem k36 : Contract Tryd.prog 36 sem36 := c36

theorem c68 : Contract Tryd.prog 68 sm68 :=
 contract_ofM (C := cf68) (fun f sem h => (Tab.nil : Tab _) _ (lk_mem' h)) (S := sg68) (fn := Tryd.f68) (c := bodyOf Tryd.f68) (ts := [6]) Tryd.func68 (by kernel_rfl) (by kernel_rfl) (by kernel_rfl) (by kernel_rfl) (by kernel_rfl) (by kernel_rfl) (by kernel_rfl) r68

theorem k68 : Contract Tryd.prog 68 sem68 := c68

theorem c39 : Contract Tryd.prog 39 sm39 :=
 contract_ofM (C := cf39) (fun f sem h => (Tab.cons k68 Tab.nil : Tab _) _ (lk_mem' h)) (S := sg39) (fn := Tryd.f39) (c := bodyOf Tryd.f39) (ts := [2]) Tryd.func39 (by kernel_rfl) (by kernel_rfl) (by kernel_rfl) (by kernel_rfl) (by kernel_rfl) (by kernel_rfl) (by kernel_rfl) r39

theorem k39 : Contract Tryd.prog 39 sem39 := c39

theorem c43 : Contract Tryd.prog 43 sm43 :=
 contract_ofM (C := cf43) (fun f sem h => (Tab.cons k68 Tab.nil : Tab _) _ (lk_mem' h)) (S := sg43) (fn := Tryd.f43) (c := bodyOf Tryd.f43) (ts := [2]) Tryd.func43 (by kernel_rfl) (by kernel_rfl) (by kernel_rfl) (by kernel_rfl) (by kernel_rfl) (by kernel_rfl) (by kernel_rfl) r43

theorem k43 : Contract Tryd.prog 43 sem43 := c43

theorem c41 : Contract Tryd.prog 41 sm41 :=
 contract_ofM (C := cf41) (fun f sem h => (Tab.cons k39 (Tab.cons k43 Tab.nil) : Tab _) _ (lk_mem' h)) (S := sg41) (fn := Tryd.f41) (c := bodyOf Tryd.f41) (ts := [2]) Tryd.func41 (by kernel_rfl) (by kernel_rfl) (by kernel_rfl) (by kernel_rfl) (by kernel_rfl) (by kernel_rfl) (by kernel_rfl) r41

theorem k41 : Contract Tryd.prog 41 sem41 := c41

theorem c44 : Contract Tryd.prog 44 sm44 :=
 contract_ofM (C := cf44) (fun f sem h => (Tab.cons k39 (Tab.cons k43 Tab.nil) : Tab _) _ (lk_mem' h)) (S := sg44) (fn := Tryd.f44) (c := bodyOf Tryd.f44) (ts := [2]) Tryd.func44 (by kernel_rfl) (by kernel_rfl) (by kernel_rfl) (by kernel_rfl) (by kernel_rfl) (by kernel_rfl) (by kernel_rfl) r44

theorem k44 : Contract Tryd.prog 44 sem44 := c44

theorem c40 : Contract Tryd.prog 40 sm40 :=
 contract_ofM (C := cf40) (fun f sem h => (Tab.cons k41 Tab.nil : Tab _) _ (lk_mem' h)) (S := sg40) (fn := Tryd.f40) (c := bodyOf Tryd.f40) (ts := [4]) Tryd.func40 (by kernel_rfl) (by kernel_rfl) (by kernel_rfl) (by kernel_rfl) (by kernel_rfl) (by kernel_rfl) (by kernel_rfl) r40

theorem c40a : Contract Tryd.prog 40 sm40a :=
 contract_ofM (C := cf40a) (fun f sem h => (Tab.cons k44 Tab.nil : Tab _) _ (lk_mem' h)) (S := sg40a) (fn := Tryd.f40) (c := bodyOf Tryd.f40) (ts := [4]) Tryd.func40 (by kernel_rfl) (by kernel_rfl) (by kernel_rfl) (by kernel_rfl) (by kernel_rfl) (by kernel_rfl) (by kernel_rfl) r40a

theorem k40 : Contract Tryd.prog 40 sem40 := contract_or c40 (c40a)

theorem c42 : Contract Tryd.prog 42 sm42 :=
 contract_ofM (C := cf42) (fun f sem h => (Tab.cons k39 (Tab.cons k43 Tab.nil) : Tab _) _ (lk_mem' h)) (S := sg42) (fn := Tryd.f42) (c := bodyOf Tryd.f42) (ts := [2]) Tryd.func42 (by kernel_rfl) (by kernel_rfl) (by kernel_rfl) (by kernel_rfl) (by kernel_rfl) (by kernel_rfl) (by kernel_rfl) r42

theorem k42 : Contract Tryd.prog 42 sem42 := c42

theorem c92 : Contract Tryd.prog 92 sm92 :=
 contract_ofM (C := cf92) (fun f sem h => (Tab.cons k87 Tab.nil : Tab _) _ (lk_mem' h)) (S := sg92) (fn := Tryd.f92) (c := bodyOf Tryd.f92) (ts := [4]) Tryd.func92 (by kernel_rfl) (by kernel_rfl) (by kernel_rfl) (by kernel_rfl) (by kernel_rfl) (by kernel_rfl) (by kernel_rfl) r92

theorem k92 : Contract Tryd.prog 92 sem92 := c92

theorem c69 : Contract Tryd.prog 69 sm69 :=
 contract_ofM (C := cf69) (fun f sem h => (Tab.cons k92 Tab.nil : Tab _) _ (lk_mem' h)) (S := sg69) (fn := Tryd.f69) (c := bodyOf Tryd.f69) (ts := [4]) Tryd.func69 (by kernel_rfl) (by kernel_rfl) (by kernel_rfl) (by kernel_rfl) (by kernel_rfl) (by kernel_rfl) (by kernel_rfl) r69

theorem k69 : Contract Tryd.prog 69 sem69 := c69

theorem c77 : Contract Tryd.prog 77 sm77 :=
 contract_ofM (C := cf77) (fun f sem h => (Tab.nil : Tab _) _ (lk_mem' h)) (S := sg77) (fn := Tryd.f77) (c := bodyOf Tryd.f77) (ts := [2]) Tryd.func77 (by kernel_rfl) (by kernel_rfl) (by kernel_rfl) (by kernel_rfl) (by kernel_rfl) (by kernel_rfl) (by kernel_rfl) r77

theorem k77 : Contract Tryd.prog 77 sem77 := c77

theorem c95 : Contract Tryd.prog 95 sm95 :=
 contract_ofM (C := cf95) (fun f sem h => (Tab.nil : Tab _) _ (lk_mem' h)) (S := sg95) (fn := Tryd.f95) (c := bodyOf Tryd.f95) (ts := [2]) Tryd.func95 (by kernel_rfl) (by kernel_rfl) (by kernel_rfl) (by kernel_rfl) (by kernel_rfl) (by kernel_rfl) (by kernel_rfl) r95

theorem k95 : Contract Tryd.prog 95 sem95 := c95

theorem c96 : Contract Tryd.prog 96 sm96 :=
 contract_ofAM (C := cf96) (fun f sem h => (Tab.nil : Tab _) _ (lk_mem' h)) (args := ag96) (alts := al96) (fn := Tryd.f96) (c := bodyOf Tryd.f96) (ts := [(2, some 96)]) Tryd.func96 (by kernel_rfl) (by kernel_rfl) (by kernel_rfl) (by kernel_rfl) (by kernel_rfl) (by kernel_rfl) (by kernel_rfl) r96

theorem k96 : Contract Tryd.prog 96 sem96 := c96

theorem c101 : Contract Tryd.prog 101 sm101 :=
 contract_ofM (C := cf101) (fun f sem h => (Tab.nil : Tab _) _ (lk_mem' h)) (S := sg101) (fn := Tryd.f101) (c := bodyOf Tryd.f101) (ts := [2]) Tryd.func101 (by kernel_rfl) (by kernel_rfl) (by kernel_rfl) (by kernel_rfl) (by kernel_rfl) (by kernel_rfl) (by kernel_rfl) r101

theorem k101 : Contract Tryd.prog 101 sem101 := c101

theorem c110 : Contract Tryd.prog 110 sm110 :=
 contract_ofM (C := cf110) (fun f sem h => (Tab.cons k101 Tab.nil : Tab _) _ (lk_mem' h)) (S := sg110) (fn := Tryd.f110) (c := bodyOf Tryd.f110) (ts := [2]) Tryd.func110 (by kernel_rfl) (by kernel_rfl) (by kernel_rfl) (by kernel_rfl) (by kernel_rfl) (by kernel_rfl) (by kernel_rfl) r110

theorem k110 : Contract Tryd.prog 110 sem110 := c110

theorem c100 : Contract Tryd.prog 100 sm100 :=
 contract_ofM (C := cf100) (fun f sem h => (Tab.cons k110 Tab.nil : Tab _) _ (lk_mem' h)) (S := sg100) (fn := Tryd.f100) (c := bodyOf Tryd.f100) (ts := [6, 7]) Tryd.func100 (by kernel_rfl) (by kernel_rfl) (by kernel_rfl) (by kernel_rfl) (by kernel_rfl) (by kernel_rfl) (by kernel_rfl) r100

theorem k100 : Contract Tryd.prog 100 sem100 := c100

theorem c78 : Contract Tryd.prog 78 sm78 :=
 contract_ofAM (C := cf78) (fun f sem h => (Tab.cons k100 Tab.nil : Tab _) _ (lk_mem' h)) (args := ag78) (alts := al78) (fn := Tryd.f78) (c := bodyOf Tryd.f78) (ts := [(4, some 96), (5, none), (6, none)]) Tryd.func78 (by kernel_rfl) (by kernel_rfl) (by kernel_rfl) (by kernel_rfl) (by kernel_rfl) (by kernel_rfl) (by kernel_rfl) r78

theorem k78 : Contract Tryd.prog 78 sem78 := c78

theorem c113 : Contract Tryd.prog 113 sm113 := sub64_contract Tryd.func113 (by kernel_rfl) (by kernel_rfl) (by kernel_rfl) (by kernel_rfl)

theorem k113 : Contract Tryd.prog 113 sem113 := c113

theorem c107 : Contract Tryd.prog 107 sm107 :=
 contract_ofAM (C := cf107) (fun f sem h => (Tab.cons k113 Tab.nil : Tab _) _ (lk_mem' h)) (args := ag107) (alts := al107) (fn := Tryd.f107) (c := bodyOf Tryd.f107) (ts := [(4, some 96), (5, none)]) Tryd.func107 (by kernel_rfl) (by kernel_rfl) (by kernel_rfl) (by kernel_rfl) (by kernel_rfl) (by kernel_rfl) (by kernel_rfl) r107

theorem k107 : Contract Tryd.prog 107 sem107 := c107

theorem c97 : Contract Tryd.prog 97 sm97 :=
 contract_ofM (C := cf97) (fun f sem h => (Tab.cons k107 Tab.nil : Tab _) _ (lk_mem' h)) (S := sg97) (fn := Tryd.f97) (c := bodyOf Tryd.f97) (ts := [4]) Tryd.func97 (by kernel_rfl) (by kernel_rfl) (by kernel_rfl) (by kernel_rfl) (by kernel_rfl) (by kernel_rfl) (by kernel_rfl) r97

theorem k97 : Contract Tryd.prog 97 sem97 := c97

theorem c109 : Contract Tryd.prog 109 sm109 :=
 contract_ofM (C := cf109) (fun f sem h => (Tab.nil : Tab _) _ (lk_mem' h)) (S := sg109) (fn := Tryd.f109) (c := bodyOf Tryd.f109) (ts := [4, 5]) Tryd.func109 (by kernel_rfl) (by kernel_rfl) (by kernel_rfl) (by kernel_rfl) (by kernel_rfl) (by kernel_rfl) (by kernel_rfl) r109

theorem k109 : Contract Tryd.prog 109 sem109 := c109

theorem c99 : Contract Tryd.prog 99 sm99 :=
 contract_ofAM (C := cf99) (fun f sem h => (Tab.cons k109 Tab.nil : Tab _) _ (lk_mem' h)) (args := ag99) (alts := al99) (fn := Tryd.f99) (c := bodyOf Tryd.f99) (ts := [(4, some 96)]) Tryd.func99 (by kernel_rfl) (by kernel_rfl) (by kernel_rfl) (by kernel_rfl) (by kernel_rfl) (by kernel_rfl) (by kernel_rfl) r99

theorem k99 : Contract Tryd.prog 99 sem99 := c99

theorem c108 : Contract Tryd.prog 108 sm108 := add64_contract Tryd.func108 (by kernel_rfl) (by kernel_rfl) (by kernel_rfl) (by kernel_rfl)

theorem k108 : Contract Tryd.prog 108 sem108 := c108

theorem c98 : Contract Tryd.prog 98 sm98 :=
 contract_ofAM (C := cf98) (fun f sem h => (Tab.cons k108 Tab.nil : Tab _) _ (lk_mem' h)) (args := ag98) (alts := al98) (fn := Tryd.f98) (c := bodyOf Tryd.f98) (ts := [(4, some 96), (5, none)]) Tryd.func98 (by kernel_rfl) (by kernel_rfl) (by kernel_rfl) (by kernel_rfl) (by kernel_rfl) (by kernel_rfl) (by kernel_rfl) r98

theorem k98 : Contract Tryd.prog 98 sem98 := c98

theorem c72 : Contract Tryd.prog 72 sm72 :=
 contract_ofAM (C := cf72) (fun f sem h => (Tab.cons k77 (Tab.cons k95 (Tab.cons k96 (Tab.cons k78 (Tab.cons k97 (Tab.cons k99 (Tab.cons k98 Tab.nil)))))) : Tab _) _ (lk_mem' h)) (args := ag72) (alts := al72) (fn := Tryd.f72) (c := bodyOf Tryd.f72) (ts := [(4, some 96), (5, none)]) Tryd.func72 (by kernel_rfl) (by kernel_rfl) (by kernel_rfl) (by kernel_rfl) (by kernel_rfl) (by kernel_rfl) (by kernel_rfl) r72

theorem k72 : Contract Tryd.prog 72 sem72 := c72

theorem c81 : Contract Tryd.prog 81 sm81 :=
 contract_ofM (C := cf81) (fun f sem h => (Tab.nil : Tab _) _ (lk_mem' h)) (S := sg81) (fn := Tryd.f81) (c := bodyOf Tryd.f81) (ts := [2]) Tryd.func81 (by kernel_rfl) (by kernel_rfl) (by kernel_rfl) (by kernel_rfl) (by kernel_rfl) (by kernel_rfl) (by kernel_rfl) r81

theorem k81 : Contract Tryd.prog 81 sem81 := c81

theorem c57 : Contract Tryd.prog 57 sm57 :=
 contract_ofAM (C := cf57) (fun f sem h => (Tab.nil : Tab _) _ (lk_mem' h)) (args := ag57) (alts := al57) (fn := Tryd.f57) (c := bodyOf Tryd.f57) (ts := [(2, some 96)]) Tryd.func57 (by kernel_rfl) (by kernel_rfl) (by kernel_rfl) (by kernel_rfl) (by kernel_rfl) (by kernel_rfl) (by kernel_rfl) r57

theorem k57 : Contract Tryd.prog 57 sem57 := c57

theorem c82 : Contract Tryd.prog 82 sm82 :=
 contract_ofM (C := cf82) (fun f sem h => (Tab.cons k101 Tab.nil : Tab _) _ (lk_mem' h)) (S := sg82) (fn := Tryd.f82) (c := bodyOf Tryd.f82) (ts := [2]) Tryd.func82 (by kernel_rfl) (by kernel_rfl) (by kernel_rfl) (by kernel_rfl) (by kernel_rfl) (by kernel_rfl) (by kernel_rfl) r82

theorem k82 : Contract Tryd.prog 82 sem82 := c82

theorem c56 : Contract Tryd.prog 56 sm56 :=
 contract_ofM (C := cf56) (fun f sem h => (Tab.cons k81 (Tab.cons k57 (Tab.cons k82 Tab.nil)) : Tab _) _ (lk_mem' h)) (S := sg56) (fn := Tryd.f56) (c := bodyOf Tryd.f56) (ts := [2]) Tryd.func56 (by kernel_rfl) (by kernel_rfl) (by kernel_rfl) (by kernel_rfl) (by kernel_rfl) (by kernel_rfl) (by kernel_rfl) r56

theorem k56 : Contract Tryd.prog 56 sem56 := c56

theorem c93 : Contract Tryd.prog 93 sm93 :=
 contract_ofAM (C := cf93) (fun f sem h => (Tab.cons k81 (Tab.cons k56 Tab.nil) : Tab _) _ (lk_mem' h)) (args := ag93) (alts := al93) (fn := Tryd.f93) (c := bodyOf Tryd.f93) (ts := [(6, some 31), (7, none)]) Tryd.func93 (by kernel_rfl) (by kernel_rfl) (by kernel_rfl) (by kernel_rfl) (by kernel_rfl) (by kernel_rfl) (by kernel_rfl) r93

theorem k93 : Contract Tryd.prog 93 sem93 := c93

theorem c70 : Contract Tryd.prog 70 sm70 :=
 contract_ofAM (C := cf70) (fun f sem h => (Tab.cons k35 (Tab.cons k72 (Tab.cons k81 (Tab.cons k93 Tab.nil))) : Tab _) _ (lk_mem' h)) (args := ag70) (alts := al70) (fn := Tryd.f70) (c := bodyOf Tryd.f70) (ts := [(2, some 31), (3, none)]) Tryd.func70 (by kernel_rfl) (by kernel_rfl) (by kernel_rfl) (by kernel_rfl) (by kernel_rfl) (by kernel_rfl) (by kernel_rfl) r70

theorem k70 : Contract Tryd.prog 70 sem70 := c70

theorem c94 : Contract Tryd.prog 94 sm94 :=
 contract_ofM (C := cf94) (fun f sem h => (Tab.cons k65 Tab.nil : Tab _) _ (lk_mem' h)) (S := sg94) (fn := Tryd.f94) (c := bodyOf Tryd.f94) (ts := [4, 5]) Tryd.func94 (by kernel_rfl) (by kernel_rfl) (by kernel_rfl) (by kernel_rfl) (by kernel_rfl) (by kernel_rfl) (by kernel_rfl) r94

theorem k94 : Contract Tryd.prog 94 sem94 := c94

theorem c71 : Contract Tryd.prog 71 sm71 :=
 contract_ofM (C := cf71) (fun f sem h => (Tab.cons k94 Tab.nil : Tab _) _ (lk_mem' h)) (S := sg71) (fn := Tryd.f71) (c := bodyOf Tryd.f71) (ts := [4, 5]) Tryd.func71 (by kernel_rfl) (by kernel_rfl) (by kernel_rfl) (by kernel_rfl) (by kernel_rfl) (by kernel_rfl) (by kernel_rfl) r71

theorem k71 : Contract Tryd.prog 71 sem71 := c71

theorem c45 : Contract Tryd.prog 45 sm45 :=
 contract_ofAM (C := cf45) (fun f sem h => (Tab.cons k69 (Tab.cons k70 (Tab.cons k71 (Tab.cons k72 Tab.nil))) : Tab _) _ (lk_mem' h)) (args := ag45) (alts := al45) (fn := Tryd.f45) (c := bodyOf Tryd.f45) (ts := [(4, some 33), (5, none)]) Tryd.func45 (by kernel_rfl) (by kernel_rfl) (by kernel_rfl) (by kernel_rfl) (by kernel_rfl) (by kernel_rfl) (by kernel_rfl) r45

theorem k45 : Contract Tryd.prog 45 sem45 := c45

theorem c20 : Contract Tryd.prog 20 sm20 :=
 contract_ofAM (C := cf20) (fun f sem h => (Tab.cons k37 (Tab.cons k36 (Tab.cons k38 (Tab.cons k39 (Tab.cons k40 (Tab.cons k42 (Tab.cons k43 (Tab.cons k45 Tab.nil))))))) : Tab _) _ (lk_mem' h)) (args := ag20) (alts := al20) (fn := Tryd.f20) (c := bodyOf Tryd.f20) (ts := [(4, some 33), (5, none), (6, none)]) Tryd.func20 (by kernel_rfl) (by kernel_rfl) (by kernel_rfl) (by kernel_rfl) (by kernel_rfl) (by kernel_rfl) (by kernel_rfl) r20

theorem k20 : Contract Tryd.prog 20 sem20 := c20

theorem c9 : Contract Tryd.prog 9 sm9 :=
 contract_ofM (C := cf9) (fun f sem h => (Tab.cons k19 (Tab.cons k20 Tab.nil) : Tab _) _ (lk_mem' h)) (S := sg9) (fn := Tryd.f9) (c := bodyOf Tryd.f9) (ts := [2, 3]) Tryd.func9 (by kernel_rfl) (by kernel_rfl) (by kernel_rfl) (by kernel_rfl) (by kernel_rfl) (by kernel_rfl) (by kernel_rfl) r9

theorem k9 : Contract Tryd.prog 9 sem9 := c9

theorem c8 : Contract Tryd.prog 8 sm8 :=
 contract_ofM (C := cf8) (fun f sem h => (Tab.cons k9 Tab.nil : Tab _) _ (lk_mem' h)) (S := sg8) (fn := Tryd.f8) (c := bodyOf Tryd.f8) (ts := [0]) Tryd.func8 (by kernel_rfl) (by kernel_rfl) (by kernel_rfl) (by kernel_rfl) (by kernel_rfl) (by kernel_rfl) (by kernel_rfl) r8

theorem k8 : Contract Tryd.prog 8 sem8 := c8

theorem c3 : Contract Tryd.prog 3 sm3 :=
 contract_ofM (C := cf3) (fun f sem h => (Tab.cons k8 (Tab.cons k9 Tab.nil) : Tab _) _ (lk_mem' h)) (S := sg3) (fn := Tryd.f3) (c := bodyOf Tryd.f3) (ts := [6]) Tryd.func3 (by kernel_rfl) (by kernel_rfl) (by kernel_rfl) (by kernel_rfl) (by kernel_rfl) (by kernel_rfl) (by kernel_rfl) r3

theorem k3 : Contract Tryd.prog 3 sem3 := c3

theorem c21 : Contract Tryd.prog 21 sm21 :=
 contract_ofM (C := cf21) (fun f sem h => (Tab.nil : Tab _) _ (lk_mem' h)) (S := sg21) (fn := Tryd.f21) (c := bodyOf Tryd.f21) (ts := [4]) Tryd.func21 (by kernel_rfl) (by kernel_rfl) (by kernel_rfl) (by kernel_rfl) (by kernel_rfl) (by kernel_rfl) (by kernel_rfl) r21

theorem k21 : Contract Tryd.prog 21 sem21 := c21

theorem c46 : Contract Tryd.prog 46 sm46 :=
 contract_ofM (C := cf46) (fun f sem h => (Tab.nil : Tab _) _ (lk_mem' h)) (S := sg46) (fn := Tryd.f46) (c := bodyOf Tryd.f46) (ts := [2]) Tryd.func46 (by kernel_rfl) (by kernel_rfl) (by kernel_rfl) (by kernel_rfl) (by kernel_rfl) (by kernel_rfl) (by kernel_rfl) r46

theorem k46 : Contract Tryd.prog 46 sem46 := c46

theorem c22 : Contract Tryd.prog 22 sm22 :=
 contract_ofM (C := cf22) (fun f sem h => (Tab.cons k46 Tab.nil : Tab _) _ (lk_mem' h)) (S := sg22) (fn := Tryd.f22) (c := bodyOf Tryd.f22) (ts := [2, 3]) Tryd.func22 (by kernel_rfl) (by kernel_rfl) (by kernel_rfl) (by kernel_rfl) (by kernel_rfl) (by kernel_rfl) (by kernel_rfl) r22

theorem k22 : Contract Tryd.prog 22 sem22 := c22

theorem c23 : Contract Tryd.prog 23 sm23 :=
 contract_ofM (C := cf23) (fun f sem h => (Tab.nil : Tab _) _ (lk_mem' h)) (S := sg23) (fn := Tryd.f23) (c := bodyOf Tryd.f23) (ts := [2]) Tryd.func23 (by kernel_rfl) (by kernel_rfl) (by kernel_rfl) (by kernel_rfl) (by kernel_rfl) (by kernel_rfl) (by kernel_rfl) r23

theorem k23 : Contract Tryd.prog 23 sem23 := c23

theorem c24 : Contract Tryd.prog 24 sm24 :=
 contract_ofM (C := cf24) (fun f sem h => (Tab.nil : Tab _) _ (lk_mem' h)) (S := sg24) (fn := Tryd.f24) (c := bodyOf Tryd.f24) (ts := [2]) Tryd.func24 (by kernel_rfl) (by kernel_rfl) (by kernel_rfl) (by kernel_rfl) (by kernel_rfl) (by kernel_rfl) (by kernel_rfl) r24

theorem k24 : Contract Tryd.prog 24 sem24 := c24

theorem c47 : Contract Tryd.prog 47 sm47 :=
 contract_ofM (C := cf47) (fun f sem h => (Tab.cons k22 Tab.nil : Tab _) _ (lk_mem' h)) (S := sg47) (fn := Tryd.f47) (c := bodyOf Tryd.f47) (ts := [2]) Tryd.func47 (by kernel_rfl) (by kernel_rfl) (by kernel_rfl) (by kernel_rfl) (by kernel_rfl) (by kernel_rfl) (by kernel_rfl) r47

theorem k47 : Contract Tryd.prog 47 sem47 := c47

theorem c25 : Contract Tryd.prog 25 sm25 :=
 contract_ofM (C := cf25) (fun f sem h => (Tab.cons k47 (Tab.cons k23 Tab.nil) : Tab _) _ (lk_mem' h)) (S := sg25) (fn := Tryd.f25) (c := bodyOf Tryd.f25) (ts := [2]) Tryd.func25 (by kernel_rfl) (by kernel_rfl) (by kernel_rfl) (by kernel_rfl) (by kernel_rfl) (by kernel_rfl) (by kernel_rfl) r25

theorem k25 : Contract Tryd.prog 25 sem25 := c25

theorem c73 : Contract Tryd.prog 73 sm73 :=
 contract_ofAM (C := cf73) (fun f sem h => (Tab.nil : Tab _) _ (lk_mem' h)) (args := ag73) (alts := al73) (fn := Tryd.f73) (c := bodyOf Tryd.f73) (ts := [(2, some 67)]) Tryd.func73 (by kernel_rfl) (by kernel_rfl) (by kernel_rfl) (by kernel_rfl) (by kernel_rfl) (by kernel_rfl) (by kernel_rfl) r73

theorem k73 : Contract Tryd.prog 73 sem73 := c73

theorem c29 : Contract Tryd.prog 29 sm29 :=
 contract_ofAM (C := cf29) (fun f sem h => (Tab.nil : Tab _) _ (lk_mem' h)) (args := ag29) (alts := al29) (fn := Tryd.f29) (c := bodyOf Tryd.f29) (ts := [(4, some 67)]) Tryd.func29 (by kernel_rfl) (by kernel_rfl) (by kernel_rfl) (by kernel_rfl) (by kernel_rfl) (by kernel_rfl) (by kernel_rfl) r29

theorem k29 : Contract Tryd.prog 29 sem29 := c29

theorem c54 : Contract Tryd.prog 54 sm54 :=
 contract_ofAM (C := cf54) (fun f sem h => (Tab.cons k29 Tab.nil : Tab _) _ (lk_mem' h)) (args := ag54) (alts := al54) (fn := Tryd.f54) (c := bodyOf Tryd.f54) (ts := [(2, some 67)]) Tryd.func54 (by kernel_rfl) (by kernel_rfl) (by kernel_rfl) (by kernel_rfl) (by kernel_rfl) (by kernel_rfl) (by kernel_rfl) r54

theorem k54 : Contract Tryd.prog 54 sem54 := c54

theorem c79 : Contract Tryd.prog 79 sm79 :=
 contract_ofAM (C := cf79) (fun f sem h => (Tab.nil : Tab _) _ (lk_mem' h)) (args := ag79) (alts := al79) (fn := Tryd.f79) (c := bodyOf Tryd.f79) (ts := [(4, some 67)]) Tryd.func79 (by kernel_rfl) (by kernel_rfl) (by kernel_rfl) (by kernel_rfl) (by kernel_rfl) (by kernel_rfl) (by kernel_rfl) r79

theorem k79 : Contract Tryd.prog 79 sem79 := c79

theorem c74 : Contract Tryd.prog 74 sm74 :=
 contract_ofM (C := cf74) (fun f sem h => (Tab.nil : Tab _) _ (lk_mem' h)) (S := sg74) (fn := Tryd.f74) (c := bodyOf Tryd.f74) (ts := [4]) Tryd.func74 (by kernel_rfl) (by kernel_rfl) (by kernel_rfl) (by kernel_rfl) (by kernel_rfl) (by kernel_rfl) (by kernel_rfl) r74

theorem k74 : Contract Tryd.prog 74 sem74 := c74

theorem c75 : Contract Tryd.prog 75 sm75 :=
 contract_ofAM (C := cf75) (fun f sem h => (Tab.nil : Tab _) _ (lk_mem' h)) (args := ag75) (alts := al75) (fn := Tryd.f75) (c := bodyOf Tryd.f75) (ts := [(6, some 67), (7, none)]) Tryd.func75 (by kernel_rfl) (by kernel_rfl) (by kernel_rfl) (by kernel_rfl) (by kernel_rfl) (by kernel_rfl) (by kernel_rfl) r75

theorem k75 : Contract Tryd.prog 75 sem75 := c75

theorem c80 : Contract Tryd.prog 80 sm80 :=
 contract_ofAM (C := cf80) (fun f sem h => (Tab.cons k73 (Tab.cons k75 (Tab.cons k74 Tab.nil)) : Tab _) _ (lk_mem' h)) (args := ag80) (alts := al80) (fn := Tryd.f80) (c := bodyOf Tryd.f80) (ts := [(4, some 67), (5, none)]) Tryd.func80 (by kernel_rfl) (by kernel_rfl) (by kernel_rfl) (by kernel_rfl) (by kernel_rfl) (by kernel_rfl) (by kernel_rfl) r80

theorem k80 : Contract Tryd.prog 80 sem80 := c80

theorem c53 : Contract Tryd.prog 53 sm53 :=
 contract_ofAM (C := cf53) (fun f sem h => (Tab.cons k79 (Tab.cons k74 (Tab.cons k80 Tab.nil)) : Tab _) _ (lk_mem' h)) (args := ag53) (alts := al53) (fn := Tryd.f53) (c := bodyOf Tryd.f53) (ts := [(4, some 67), (5, some 67)]) Tryd.func53 (by kernel_rfl) (by kernel_rfl) (by kernel_rfl) (by kernel_rfl) (by kernel_rfl) (by kernel_rfl) (by kernel_rfl) r53

theorem k53 : Contract Tryd.prog 53 sem53 := c53

theorem c76 : Contract Tryd.prog 76 sm76 :=
 contract_ofAM (C := cf76) (fun f sem h => (Tab.cons k79 (Tab.cons k75 Tab.nil) : Tab _) _ (lk_mem' h)) (args := ag76) (alts := al76) (fn := Tryd.f76) (c := bodyOf Tryd.f76) (ts := [(4, some 67)]) Tryd.func76 (by kernel_rfl) (by kernel_rfl) (by kernel_rfl) (by kernel_rfl) (by kernel_rfl) (by kernel_rfl) (by kernel_rfl) r76

theorem k76 : Contract Tryd.prog 76 sem76 := c76

theorem c49 : Contract Tryd.prog 49 sm49 :=
 contract_ofAM (C := cf49) (fun f sem h => (Tab.cons k73 (Tab.cons k54 (Tab.cons k53 (Tab.cons k74 (Tab.cons k76 (Tab.cons k75 Tab.nil))))) : Tab _) _ (lk_mem' h)) (args := ag49) (alts := al49) (fn := Tryd.f49) (c := bodyOf Tryd.f49) (ts := [(4, some 67), (5, none)]) Tryd.func49 (by kernel_rfl) (by kernel_rfl) (by kernel_rfl) (by kernel_rfl) (by kernel_rfl) (by kernel_rfl) (by kernel_rfl) r49

theorem k49 : Contract Tryd.prog 49 sem49 := c49

theorem c51 : Contract Tryd.prog 51 sm51 :=
 contract_ofM (C := cf51) (fun f sem h => (Tab.nil : Tab _) _ (lk_mem' h)) (S := sg51) (fn := Tryd.f51) (c := bodyOf Tryd.f51) (ts := [2, 3]) Tryd.func51 (by kernel_rfl) (by kernel_rfl) (by kernel_rfl) (by kernel_rfl) (by kernel_rfl) (by kernel_rfl) (by kernel_rfl) r51

theorem k51 : Contract Tryd.prog 51 sem51 := c51

theorem c50 : Contract Tryd.prog 50 sm50 :=
 contract_ofM (C := cf50) (fun f sem h => (Tab.nil : Tab _) _ (lk_mem' h)) (S := sg50) (fn := Tryd.f50) (c := bodyOf Tryd.f50) (ts := [2]) Tryd.func50 (by kernel_rfl) (by kernel_rfl) (by kernel_rfl) (by kernel_rfl) (by kernel_rfl) (by kernel_rfl) (by kernel_rfl) r50

theorem k50 : Contract Tryd.prog 50 sem50 := c50

theorem c48 : Contract Tryd.prog 48 sm48 :=
 contract_ofAM (C := cf48) (fun f sem h => (Tab.cons k49 (Tab.cons k51 (Tab.cons k50 Tab.nil)) : Tab _) _ (lk_mem' h)) (args := ag48) (alts := al48) (fn := Tryd.f48) (c := bodyOf Tryd.f48) (ts := [(2, some 31), (3, none)]) Tryd.func48 (by kernel_rfl) (by kernel_rfl) (by kernel_rfl) (by kernel_rfl) (by kernel_rfl) (by kernel_rfl) (by kernel_rfl) r48

theorem k48 : Contract Tryd.prog 48 sem48 := c48

theorem c26 : Contract Tryd.prog 26 sm26 :=
 contract_ofAM (C := cf26) (fun f sem h => (Tab.cons k48 (Tab.cons k49 (Tab.cons k50 (Tab.cons k51 Tab.nil))) : Tab _) _ (lk_mem' h)) (args := ag26) (alts := al26) (fn := Tryd.f26) (c := bodyOf Tryd.f26) (ts := [(4, some 43), (5, none)]) Tryd.func26 (by kernel_rfl) (by kernel_rfl) (by kernel_rfl) (by kernel_rfl) (by kernel_rfl) (by kernel_rfl) (by kernel_rfl) r26

theorem k26 : Contract Tryd.prog 26 sem26 := c26

theorem c10 : Contract Tryd.prog 10 sm10 :=
 contract_ofM (C := cf10) (fun f sem h => (Tab.cons k21 (Tab.cons k22 (Tab.cons k23 (Tab.cons k24 (Tab.cons k25 (Tab.cons k26 Tab.nil))))) : Tab _) _ (lk_mem' h)) (S := sg10) (fn := Tryd.f10) (c := bodyOf Tryd.f10) (ts := [2, 3, 4]) Tryd.func10 (by kernel_rfl) (by kernel_rfl) (by kernel_rfl) (by kernel_rfl) (by kernel_rfl) (by kernel_rfl) (by kernel_rfl) r10

theorem k10 : Contract Tryd.prog 10 sem10 := c10

theorem c11 : Contract Tryd.prog 11 sm11 :=
 contract_ofM (C := cf11) (fun f sem h => (Tab.nil : Tab _) _ (lk_mem' h)) (S := sg11) (fn := Tryd.f11) (c := bodyOf Tryd.f11) (ts := [2, 3]) Tryd.func11 (by kernel_rfl) (by kernel_rfl) (by kernel_rfl) (by kernel_rfl) (by kernel_rfl) (by kernel_rfl) (by kernel_rfl) r11

theorem k11 : Contract Tryd.prog 11 sem11 := c11

theorem c12 : Contract Tryd.prog 12 sm12 :=
 contract_ofM (C := cf12) (fun f sem h => (Tab.nil : Tab _) _ (lk_mem' h)) (S := sg12) (fn := Tryd.f12) (c := bodyOf Tryd.f12) (ts := [4]) Tryd.func12 (by kernel_rfl) (by kernel_rfl) (by kernel_rfl) (by kernel_rfl) (by kernel_rfl) (by kernel_rfl) (by kernel_rfl) r12

theorem k12 : Contract Tryd.prog 12 sem12 := c12

theorem c4 : Contract Tryd.prog 4 sm4 :=
 contract_ofM (C := cf4) (fun f sem h => (Tab.cons k8 (Tab.cons k9 (Tab.cons k10 (Tab.cons k11 (Tab.cons k12 Tab.nil)))) : Tab _) _ (lk_mem' h)) (S := sg4) (fn := Tryd.f4) (c := bodyOf Tryd.f4) (ts := [2]) Tryd.func4 (by kernel_rfl) (by kernel_rfl) (by kernel_rfl) (by kernel_rfl) (by kernel_rfl) (by kernel_rfl) (by kernel_rfl) r4

theorem k4 : Contract Tryd.prog 4 sem4 := c4

theorem c28 : Contract Tryd.prog 28 sm28 :=
 contract_ofM (C := cf28) (fun f sem h => (Tab.cons k50 (Tab.cons k54 (Tab.cons k53 (Tab.cons k51 Tab.nil))) : Tab _) _ (lk_mem' h)) (S := sg28) (fn := Tryd.f28) (c := bodyOf Tryd.f28) (ts := [4]) Tryd.func28 (by kernel_rfl) (by kernel_rfl) (by kernel_rfl) (by kernel_rfl) (by kernel_rfl) (by kernel_rfl) (by kernel_rfl) r28

theorem k28 : Contract Tryd.prog 28 sem28 := c28

theorem c55 : Contract Tryd.prog 55 sm55 :=
 contract_ofM (C := cf55) (fun f sem h => (Tab.cons k29 (Tab.cons k50 Tab.nil) : Tab _) _ (lk_mem' h)) (S := sg55) (fn := Tryd.f55) (c := bodyOf Tryd.f55) (ts := [2]) Tryd.func55 (by kernel_rfl) (by kernel_rfl) (by kernel_rfl) (by kernel_rfl) (by kernel_rfl) (by kernel_rfl) (by kernel_rfl) r55

theorem k55 : Contract Tryd.prog 55 sem55 := c55

theorem c30 : Contract Tryd.prog 30 sm30 :=
 contract_ofM (C := cf30) (fun f sem h => (Tab.cons k55 (Tab.cons k29 (Tab.cons k28 Tab.nil)) : Tab _) _ (lk_mem' h)) (S := sg30) (fn := Tryd.f30) (c := bodyOf Tryd.f30) (ts := [2]) Tryd.func30 (by kernel_rfl) (by kernel_rfl) (by kernel_rfl) (by kernel_rfl) (by kernel_rfl) (by kernel_rfl) (by kernel_rfl) r30

theorem k30 : Contract Tryd.prog 30 sem30 := c30

theorem c16 : Contract Tryd.prog 16 sm16 :=
 contract_ofM (C := cf16) (fun f sem h => (Tab.cons k29 (Tab.cons k28 (Tab.cons k30 Tab.nil)) : Tab _) _ (lk_mem' h)) (S := sg16) (fn := Tryd.f16) (c := bodyOf Tryd.f16) (ts := [2]) Tryd.func16 (by kernel_rfl) (by kernel_rfl) (by kernel_rfl) (by kernel_rfl) (by kernel_rfl) (by kernel_rfl) (by kernel_rfl) r16

theorem k16 : Contract Tryd.prog 16 sem16 := c16

theorem c52 : Contract Tryd.prog 52 sm52 :=
 contract_ofM (C := cf52) (fun f sem h => (Tab.cons k77 (Tab.cons k78 Tab.nil) : Tab _) _ (lk_mem' h)) (S := sg52) (fn := Tryd.f52) (c := bodyOf Tryd.f52) (ts := [4]) Tryd.func52 (by kernel_rfl) (by kernel_rfl) (by kernel_rfl) (by kernel_rfl) (by kernel_rfl) (by kernel_rfl) (by kernel_rfl) r52

theorem k52 : Contract Tryd.prog 52 sem52 := c52

theorem c27 : Contract Tryd.prog 27 sm27 :=
 contract_ofM (C := cf27) (fun f sem h => (Tab.cons k52 Tab.nil : Tab _) _ (lk_mem' h)) (S := sg27) (fn := Tryd.f27) (c := bodyOf Tryd.f27) (ts := [2]) Tryd.func27 (by kernel_rfl) (by kernel_rfl) (by kernel_rfl) (by kernel_rfl) (by kernel_rfl) (by kernel_rfl) (by kernel_rfl) r27

theorem k27 : Contract Tryd.prog 27 sem27 := c27

theorem c31 : Contract Tryd.prog 31 sm31 :=
 contract_ofM (C := cf31) (fun f sem h => (Tab.cons k56 (Tab.cons k52 (Tab.cons k57 Tab.nil)) : Tab _) _ (lk_mem' h)) (S := sg31) (fn := Tryd.f31) (c := bodyOf Tryd.f31) (ts := [2]) Tryd.func31 (by kernel_rfl) (by kernel_rfl) (by kernel_rfl) (by kernel_rfl) (by kernel_rfl) (by kernel_rfl) (by kernel_rfl) r31

theorem k31 : Contract Tryd.prog 31 sem31 := c31

theorem c17 : Contract Tryd.prog 17 sm17 :=
 contract_ofM (C := cf17) (fun f sem h => (Tab.cons k27 (Tab.cons k31 Tab.nil) : Tab _) _ (lk_mem' h)) (S := sg17) (fn := Tryd.f17) (c := bodyOf Tryd.f17) (ts := [2]) Tryd.func17 (by kernel_rfl) (by kernel_rfl) (by kernel_rfl) (by kernel_rfl) (by kernel_rfl) (by kernel_rfl) (by kernel_rfl) r17

theorem k17 : Contract Tryd.prog 17 sem17 := c17

theorem c32 : Contract Tryd.prog 32 sm32 := join_contract lays156 extra156 (by kernel_rfl) Tryd.func32 (by kernel_rfl) (by kernel_rfl)

theorem k32 : Contract Tryd.prog 32 sem32 := c32

theorem c18 : Contract Tryd.prog 18 sm18 :=
 contract_ofM (C := cf18) (fun f sem h => (Tab.cons k17 (Tab.cons k32 Tab.nil) : Tab _) _ (lk_mem' h)) (S := sg18) (fn := Tryd.f18) (c := bodyOf Tryd.f18) (ts := [2]) Tryd.func18 (by kernel_rfl) (by kernel_rfl) (by kernel_rfl) (by kernel_rfl) (by kernel_rfl) (by kernel_rfl) (by kernel_rfl) r18

theorem k18 : Contract Tryd.prog 18 sem18 := c18

theorem c6 : Contract Tryd.prog 6 sm6 :=
 contract_ofM (C := cf6) (fun f sem h => (Tab.cons k8 (Tab.cons k16 (Tab.cons k17 (Tab.cons k18 Tab.nil))) : Tab _) _ (lk_mem' h)) (S := sg6) (fn := Tryd.f6) (c := bodyOf Tryd.f6) (ts := [2]) Tryd.func6 (by kernel_rfl) (by kernel_rfl) (by kernel_rfl) (by kernel_rfl) (by kernel_rfl) (by kernel_rfl) (by kernel_rfl) r6

theorem k6 : Contract Tryd.prog 6 sem6 := c6

theorem c7 : Contract Tryd.prog 7 sm7 :=
 contract_ofM (C := cf7) (fun f sem h => (Tab.cons k8 (Tab.cons k9 (Tab.cons k18 Tab.nil)) : Tab _) _ (lk_mem' h)) (S := sg7) (fn := Tryd.f7) (c := bodyOf Tryd.f7) (ts := [2]) Tryd.func7 (by kernel_rfl) (by kernel_rfl) (by kernel_rfl) (by kernel_rfl) (by kernel_rfl) (by kernel_rfl) (by kernel_rfl) r7

theorem k7 : Contract Tryd.prog 7 sem7 := c7

theorem c13 : Contract Tryd.prog 13 sm13 :=
 contract_ofM (C := cf13) (fun f sem h => (Tab.nil : Tab _) _ (lk_mem' h)) (S := sg13) (fn := Tryd.f13) (c := bodyOf Tryd.f13) (ts := [2]) Tryd.func13 (by kernel_rfl) (by kernel_rfl) (by kernel_rfl) (by kernel_rfl) (by kernel_rfl) (by kernel_rfl) (by kernel_rfl) r13

theorem c13a : Contract Tryd.prog 13 sm13a :=
 contract_ofM (C := cf13a) (fun f sem h => (Tab.cons k27 Tab.nil : Tab _) _ (lk_mem' h)) (S := sg13a) (fn := Tryd.f13) (c := bodyOf Tryd.f13) (ts := [2]) Tryd.func13 (by kernel_rfl) (by kernel_rfl) (by kernel_rfl) (by kernel_rfl) (by kernel_rfl) (by kernel_rfl) (by kernel_rfl) r13a

theorem k13 : Contract Tryd.prog 13 sem13 := contract_or c13 (c13a)

theorem c14 : Contract Tryd.prog 14 sm14 :=
 contract_ofM (C := cf14) (fun f sem h => (Tab.cons k29 (Tab.cons k28 Tab.nil) : Tab _) _ (lk_mem' h)) (S := sg14) (fn := Tryd.f14) (c := bodyOf Tryd.f14) (ts := [2]) Tryd.func14 (by kernel_rfl) (by kernel_rfl) (by kernel_rfl) (by kernel_rfl) (by kernel_rfl) (by kernel_rfl) (by kernel_rfl) r14

theorem k14 : Contract Tryd.prog 14 sem14 := c14

theorem c15 : Contract Tryd.prog 15 sm15 := ⟨fun avs s hs => (by cases hs), fun z h => (by cases h), fun z hz => by obtain rfl := Option.some.inj hz; exact pay15⟩

theorem k15 : Contract Tryd.prog 15 sem15 := c15

theorem c5 : Contract Tryd.prog 5 sm5 :=
 contract_ofM (C := cf5) (fun f sem h => (Tab.cons k8 (Tab.cons k9 (Tab.cons k11 (Tab.cons k13 (Tab.cons k14 (Tab.cons k15 Tab.nil))))) : Tab _) _ (lk_mem' h)) (S := sg5) (fn := Tryd.f5) (c := bodyOf Tryd.f5) (ts := [2]) Tryd.func5 (by kernel_rfl) (by kernel_rfl) (by kernel_rfl) (by kernel_rfl) (by kernel_rfl) (by kernel_rfl) (by kernel_rfl) r5

theorem k5 : Contract Tryd.prog 5 sem5 := c5

end Go.Proofs.YtkpiocglghnnhaaDoor
