/- The functions of this seat, and the laws as plain Lean. -/
import Derived.Test.YtgaeodfbejbbeaaProg
import Derived.Test.YtgaeodfbejbbeaaQ8

set_option linter.unusedSimpArgs false
set_option linter.unusedVariables false

namespace Go.Proofs.Ytgaeodfbejbbeaa
open Go Go.Pv Go.Proofs Go.Shelf
set_option maxRecDepth 100000

def lays156_ren : Go.Shelf.Ren := ⟨fun | 156 => 29 | 165 => 41 | 166 => 42 | 169 => 43 | 240 => 51 | 241 => 52 | 276 => 58 | 277 => 59 | n => n, fun | 31 => 79 | 9 => 9 | 3 => 3 | 4 => 4 | 0 => 0 | 20 => 20 | 72 => 108 | 76 => 112 | 70 => 105 | 37 => 106 | 75 => 111 | 127 => 132 | 164 => 140 | 5 => 5 | 80 => 114 | n => n, fun | n => n⟩
theorem lays156 : Go.Proofs.Lays.n156 Try.prog lays156_ren := {
  mixed := by kernel_rfl,
  f156 := Try.func29.trans (congrArg some (by kernel_rfl)),
  f165 := Try.func41.trans (congrArg some (by kernel_rfl)),
  f166 := Try.func42.trans (congrArg some (by kernel_rfl)),
  f169 := Try.func43.trans (congrArg some (by kernel_rfl)),
  f240 := Try.func51.trans (congrArg some (by kernel_rfl)),
  f241 := Try.func52.trans (congrArg some (by kernel_rfl)),
  f276 := Try.func58.trans (congrArg some (by kernel_rfl)),
  f277 := Try.func59.trans (congrArg some (by kernel_rfl)),
  t0 := Try.underlying0,
  a0 := Try.isAgg0,
  z0 := Try.sizeOf0,
  v0 := Try.zeroValue0,
  t3 := Try.underlying3,
  a3 := Try.isAgg3,
  z3 := Try.sizeOf3,
  v3 := Try.zeroValue3,
  t4 := Try.underlying4,
  a4 := Try.isAgg4,
  z4 := Try.sizeOf4,
  v4 := Try.zeroValue4,
  t9 := Try.underlying9,
  a9 := Try.isAgg9,
  z9 := Try.sizeOf9,
  v9 := Try.zeroValue9,
  t20 := Try.underlying20,
  a20 := Try.isAgg20,
  z20 := Try.sizeOf20,
  v20 := Try.zeroValue20,
  t31 := Try.underlying79,
  a31 := Try.isAgg79,
  z31 := Try.sizeOf79,
  v31 := Try.zeroValue79,
  t37 := Try.underlying106,
  a37 := Try.isAgg106,
  z37 := Try.sizeOf106,
  v37 := Try.zeroValue106,
  t70 := Try.underlying105,
  a70 := Try.isAgg105,
  z70 := Try.sizeOf105,
  v70 := Try.zeroValue105,
  t72 := Try.underlying108,
  a72 := Try.isAgg108,
  z72 := Try.sizeOf108,
  v72 := Try.zeroValue108,
  t75 := Try.underlying111,
  a75 := Try.isAgg111,
  z75 := Try.sizeOf111,
  v75 := Try.zeroValue111,
  t76 := Try.underlying112,
  a76 := Try.isAgg112,
  z76 := Try.sizeOf112,
  v76 := Try.zeroValue112,
  t127 := Try.underlying132,
  a127 := Try.isAgg132,
  z127 := Try.sizeOf132,
  v127 := Try.zeroValue132,
  t164 := Try.underlying140,
  a164 := Try.isAgg140,
  z164 := Try.sizeOf140,
  v164 := Try.zeroValue140 }

theorem extra156 : Builder.Extra Try.prog lays156_ren := {
  sizeBuilder := by kernel_rfl,
  liesBuilder := by kernel_rfl,
  t5 := Try.underlying5,
  a5 := Try.isAgg5,
  z5 := Try.sizeOf5,
  v5 := Try.zeroValue5,
  infoByte := by kernel_rfl,
  cellsByte := by kernel_rfl,
  sizeByte := by kernel_rfl,
  neB5 := by decide }

end Go.Proofs.Ytgaeodfbejbbeaa

namespace Go.Proofs.Ytgaeodfbejbbeaa
open Go Go.Pv Go.Proofs Go.L
set_option maxRecDepth 100000

theorem c8 : Contract Try.prog 8 sm8 :=
  contract_ofM (C := cf8) (fun f sem h => (Tab.nil : Tab _) _ (lk_mem' h)) (S := sg8) (fn := Try.f8) (c := bodyOf Try.f8) (ts := [0]) Try.func8 (by kernel_rfl) (by kernel_rfl) (by kernel_rfl) (by kernel_rfl) (by kernel_rfl) (by kernel_rfl) (by kernel_rfl) r8

theorem k8 : Contract Try.prog 8 sem8 := c8

theorem c24 : Contract Try.prog 24 sm24 :=
  contract_ofM (C := cf24) (fun f sem h => (Tab.nil : Tab _) _ (lk_mem' h)) (S := sg24) (fn := Try.f24) (c := bodyOf Try.f24) (ts := [0]) Try.func24 (by kernel_rfl) (by kernel_rfl) (by kernel_rfl) (by kernel_rfl) (by kernel_rfl) (by kernel_rfl) (by kernel_rfl) r24

theorem k24 : Contract Try.prog 24 sem24 := c24

theorem c23 : Contract Try.prog 23 sm23 :=
  contract_ofM (C := cf23) (fun f sem h => (Tab.nil : Tab _) _ (lk_mem' h)) (S := sg23) (fn := Try.f23) (c := bodyOf Try.f23) (ts := [4]) Try.func23 (by kernel_rfl) (by kernel_rfl) (by kernel_rfl) (by kernel_rfl) (by kernel_rfl) (by kernel_rfl) (by kernel_rfl) r23

theorem k23 : Contract Try.prog 23 sem23 := c23

theorem c9 : Contract Try.prog 9 sm9 :=
  contract_ofM (C := cf9) (fun f sem h => (Tab.cons k24 (Tab.cons k23 Tab.nil) : Tab _) _ (lk_mem' h)) (S := sg9) (fn := Try.f9) (c := bodyOf Try.f9) (ts := [2, 3]) Try.func9 (by kernel_rfl) (by kernel_rfl) (by kernel_rfl) (by kernel_rfl) (by kernel_rfl) (by kernel_rfl) (by kernel_rfl) r9

theorem k9 : Contract Try.prog 9 sem9 := c9

theorem c25 : Contract Try.prog 25 sm25 :=
  contract_ofM (C := cf25) (fun f sem h => (Tab.nil : Tab _) _ (lk_mem' h)) (S := sg25) (fn := Try.f25) (c := bodyOf Try.f25) (ts := [2]) Try.func25 (by kernel_rfl) (by kernel_rfl) (by kernel_rfl) (by kernel_rfl) (by kernel_rfl) (by kernel_rfl) (by kernel_rfl) r25

theorem k25 : Contract Try.prog 25 sem25 := c25

theorem c10 : Contract Try.prog 10 sm10 :=
  contract_ofM (C := cf10) (fun f sem h => (Tab.cons k25 (Tab.cons k24 Tab.nil) : Tab _) _ (lk_mem' h)) (S := sg10) (fn := Try.f10) (c := bodyOf Try.f10) (ts := [2]) Try.func10 (by kernel_rfl) (by kernel_rfl) (by kernel_rfl) (by kernel_rfl) (by kernel_rfl) (by kernel_rfl) (by kernel_rfl) r10

theorem k10 : Contract Try.prog 10 sem10 := c10

theorem c37 : Contract Try.prog 37 sm37 :=
  contract_ofAM (C := cf37) (fun f sem h => (Tab.nil : Tab _) _ (lk_mem' h)) (args := ag37) (alts := al37) (fn := Try.f37) (c := bodyOf Try.f37) (ts := [(10, some 83)]) Try.func37 (by kernel_rfl) (by kernel_rfl) (by kernel_rfl) (by kernel_rfl) (by kernel_rfl) (by kernel_rfl) (by kernel_rfl) r37

theorem k37 : Contract Try.prog 37 sem37 := c37

theorem c38 : Contract Try.prog 38 sm38 :=
  contract_ofAM (C := cf38) (fun f sem h => (Tab.nil : Tab _) _ (lk_mem' h)) (args := ag38) (alts := al38) (fn := Try.f38) (c := bodyOf Try.f38) (ts := [(8, some 83)]) Try.func38 (by kernel_rfl) (by kernel_rfl) (by kernel_rfl) (by kernel_rfl) (by kernel_rfl) (by kernel_rfl) (by kernel_rfl) r38

theorem k38 : Contract Try.prog 38 sem38 := c38

theorem c26 : Contract Try.prog 26 sm26 :=
  contract_ofAM (C := cf26) (fun f sem h => (Tab.cons k37 (Tab.cons k38 Tab.nil) : Tab _) _ (lk_mem' h)) (args := ag26) (alts := al26) (fn := Try.f26) (c := bodyOf Try.f26) (ts := [(2, some 83)]) Try.func26 (by kernel_rfl) (by kernel_rfl) (by kernel_rfl) (by kernel_rfl) (by kernel_rfl) (by kernel_rfl) (by kernel_rfl) r26

theorem k26 : Contract Try.prog 26 sem26 := c26

theorem c11 : Contract Try.prog 11 sm11 :=
  contract_ofM (C := cf11) (fun f sem h => (Tab.cons k25 (Tab.cons k26 Tab.nil) : Tab _) _ (lk_mem' h)) (S := sg11) (fn := Try.f11) (c := bodyOf Try.f11) (ts := [2, 3]) Try.func11 (by kernel_rfl) (by kernel_rfl) (by kernel_rfl) (by kernel_rfl) (by kernel_rfl) (by kernel_rfl) (by kernel_rfl) r11

theorem k11 : Contract Try.prog 11 sem11 := c11

theorem c47 : Contract Try.prog 47 sm47 :=
  contract_ofM (C := cf47) (fun f sem h => (Tab.nil : Tab _) _ (lk_mem' h)) (S := sg47) (fn := Try.f47) (c := bodyOf Try.f47) (ts := [2]) Try.func47 (by kernel_rfl) (by kernel_rfl) (by kernel_rfl) (by kernel_rfl) (by kernel_rfl) (by kernel_rfl) (by kernel_rfl) r47

theorem k47 : Contract Try.prog 47 sem47 := c47

theorem c40 : Contract Try.prog 40 sm40 :=
  contract_ofAM (C := cf40) (fun f sem h => (Tab.nil : Tab _) _ (lk_mem' h)) (args := ag40) (alts := al40) (fn := Try.f40) (c := bodyOf Try.f40) (ts := [(2, some 103)]) Try.func40 (by kernel_rfl) (by kernel_rfl) (by kernel_rfl) (by kernel_rfl) (by kernel_rfl) (by kernel_rfl) (by kernel_rfl) r40

theorem k40 : Contract Try.prog 40 sem40 := c40

theorem c56 : Contract Try.prog 56 sm56 :=
  contract_ofM (C := cf56) (fun f sem h => (Tab.nil : Tab _) _ (lk_mem' h)) (S := sg56) (fn := Try.f56) (c := bodyOf Try.f56) (ts := [2]) Try.func56 (by kernel_rfl) (by kernel_rfl) (by kernel_rfl) (by kernel_rfl) (by kernel_rfl) (by kernel_rfl) (by kernel_rfl) r56

theorem k56 : Contract Try.prog 56 sem56 := c56

theorem c48 : Contract Try.prog 48 sm48 :=
  contract_ofM (C := cf48) (fun f sem h => (Tab.cons k56 Tab.nil : Tab _) _ (lk_mem' h)) (S := sg48) (fn := Try.f48) (c := bodyOf Try.f48) (ts := [2]) Try.func48 (by kernel_rfl) (by kernel_rfl) (by kernel_rfl) (by kernel_rfl) (by kernel_rfl) (by kernel_rfl) (by kernel_rfl) r48

theorem k48 : Contract Try.prog 48 sem48 := c48

theorem c34 : Contract Try.prog 34 sm34 :=
  contract_ofM (C := cf34) (fun f sem h => (Tab.cons k47 (Tab.cons k40 (Tab.cons k48 Tab.nil)) : Tab _) _ (lk_mem' h)) (S := sg34) (fn := Try.f34) (c := bodyOf Try.f34) (ts := [2]) Try.func34 (by kernel_rfl) (by kernel_rfl) (by kernel_rfl) (by kernel_rfl) (by kernel_rfl) (by kernel_rfl) (by kernel_rfl) r34

theorem k34 : Contract Try.prog 34 sem34 := c34

theorem c49 : Contract Try.prog 49 sm49 :=
  contract_ofM (C := cf49) (fun f sem h => (Tab.nil : Tab _) _ (lk_mem' h)) (S := sg49) (fn := Try.f49) (c := bodyOf Try.f49) (ts := [2]) Try.func49 (by kernel_rfl) (by kernel_rfl) (by kernel_rfl) (by kernel_rfl) (by kernel_rfl) (by kernel_rfl) (by kernel_rfl) r49

theorem k49 : Contract Try.prog 49 sem49 := c49

theorem c63 : Contract Try.prog 63 sm63 :=
  contract_ofM (C := cf63) (fun f sem h => (Tab.cons k56 Tab.nil : Tab _) _ (lk_mem' h)) (S := sg63) (fn := Try.f63) (c := bodyOf Try.f63) (ts := [2]) Try.func63 (by kernel_rfl) (by kernel_rfl) (by kernel_rfl) (by kernel_rfl) (by kernel_rfl) (by kernel_rfl) (by kernel_rfl) r63

theorem k63 : Contract Try.prog 63 sem63 := c63

theorem c57 : Contract Try.prog 57 sm57 :=
  contract_ofM (C := cf57) (fun f sem h => (Tab.cons k63 Tab.nil : Tab _) _ (lk_mem' h)) (S := sg57) (fn := Try.f57) (c := bodyOf Try.f57) (ts := [6, 7]) Try.func57 (by kernel_rfl) (by kernel_rfl) (by kernel_rfl) (by kernel_rfl) (by kernel_rfl) (by kernel_rfl) (by kernel_rfl) r57

theorem k57 : Contract Try.prog 57 sem57 := c57

theorem c50 : Contract Try.prog 50 sm50 :=
  contract_ofAM (C := cf50) (fun f sem h => (Tab.cons k57 Tab.nil : Tab _) _ (lk_mem' h)) (args := ag50) (alts := al50) (fn := Try.f50) (c := bodyOf Try.f50) (ts := [(4, some 103), (5, none), (6, none)]) Try.func50 (by kernel_rfl) (by kernel_rfl) (by kernel_rfl) (by kernel_rfl) (by kernel_rfl) (by kernel_rfl) (by kernel_rfl) r50

theorem k50 : Contract Try.prog 50 sem50 := c50

theorem c39 : Contract Try.prog 39 sm39 :=
  contract_ofM (C := cf39) (fun f sem h => (Tab.cons k49 (Tab.cons k50 Tab.nil) : Tab _) _ (lk_mem' h)) (S := sg39) (fn := Try.f39) (c := bodyOf Try.f39) (ts := [4]) Try.func39 (by kernel_rfl) (by kernel_rfl) (by kernel_rfl) (by kernel_rfl) (by kernel_rfl) (by kernel_rfl) (by kernel_rfl) r39

theorem k39 : Contract Try.prog 39 sem39 := c39

theorem c27 : Contract Try.prog 27 sm27 :=
  contract_ofM (C := cf27) (fun f sem h => (Tab.cons k34 (Tab.cons k39 (Tab.cons k40 Tab.nil)) : Tab _) _ (lk_mem' h)) (S := sg27) (fn := Try.f27) (c := bodyOf Try.f27) (ts := [2]) Try.func27 (by kernel_rfl) (by kernel_rfl) (by kernel_rfl) (by kernel_rfl) (by kernel_rfl) (by kernel_rfl) (by kernel_rfl) r27

theorem k27 : Contract Try.prog 27 sem27 := c27

theorem c28 : Contract Try.prog 28 sm28 :=
  contract_ofM (C := cf28) (fun f sem h => (Tab.cons k39 Tab.nil : Tab _) _ (lk_mem' h)) (S := sg28) (fn := Try.f28) (c := bodyOf Try.f28) (ts := [2]) Try.func28 (by kernel_rfl) (by kernel_rfl) (by kernel_rfl) (by kernel_rfl) (by kernel_rfl) (by kernel_rfl) (by kernel_rfl) r28

theorem k28 : Contract Try.prog 28 sem28 := c28

theorem c29 : Contract Try.prog 29 sm29 := join_contract lays156 extra156 (by kernel_rfl) Try.func29 (by kernel_rfl) (by kernel_rfl)

theorem k29 : Contract Try.prog 29 sem29 := c29

theorem c12 : Contract Try.prog 12 sm12 :=
  contract_ofM (C := cf12) (fun f sem h => (Tab.cons k25 (Tab.cons k10 (Tab.cons k26 (Tab.cons k27 (Tab.cons k28 (Tab.cons k29 Tab.nil))))) : Tab _) _ (lk_mem' h)) (S := sg12) (fn := Try.f12) (c := bodyOf Try.f12) (ts := [2]) Try.func12 (by kernel_rfl) (by kernel_rfl) (by kernel_rfl) (by kernel_rfl) (by kernel_rfl) (by kernel_rfl) (by kernel_rfl) r12

theorem k12 : Contract Try.prog 12 sem12 := c12

theorem c45 : Contract Try.prog 45 sm45 :=
  contract_ofAM (C := cf45) (fun f sem h => (Tab.nil : Tab _) _ (lk_mem' h)) (args := ag45) (alts := al45) (fn := Try.f45) (c := bodyOf Try.f45) (ts := [(4, some 117)]) Try.func45 (by kernel_rfl) (by kernel_rfl) (by kernel_rfl) (by kernel_rfl) (by kernel_rfl) (by kernel_rfl) (by kernel_rfl) r45

theorem k45 : Contract Try.prog 45 sem45 := c45

theorem c46 : Contract Try.prog 46 sm46 :=
  contract_ofM (C := cf46) (fun f sem h => (Tab.nil : Tab _) _ (lk_mem' h)) (S := sg46) (fn := Try.f46) (c := bodyOf Try.f46) (ts := [2]) Try.func46 (by kernel_rfl) (by kernel_rfl) (by kernel_rfl) (by kernel_rfl) (by kernel_rfl) (by kernel_rfl) (by kernel_rfl) r46

theorem k46 : Contract Try.prog 46 sem46 := c46

theorem c32 : Contract Try.prog 32 sm32 :=
  contract_ofM (C := cf32) (fun f sem h => (Tab.cons k45 (Tab.cons k46 Tab.nil) : Tab _) _ (lk_mem' h)) (S := sg32) (fn := Try.f32) (c := bodyOf Try.f32) (ts := [2]) Try.func32 (by kernel_rfl) (by kernel_rfl) (by kernel_rfl) (by kernel_rfl) (by kernel_rfl) (by kernel_rfl) (by kernel_rfl) r32

theorem k32 : Contract Try.prog 32 sem32 := c32

theorem c54 : Contract Try.prog 54 sm54 :=
  contract_ofAM (C := cf54) (fun f sem h => (Tab.cons k45 Tab.nil : Tab _) _ (lk_mem' h)) (args := ag54) (alts := al54) (fn := Try.f54) (c := bodyOf Try.f54) (ts := [(2, some 117)]) Try.func54 (by kernel_rfl) (by kernel_rfl) (by kernel_rfl) (by kernel_rfl) (by kernel_rfl) (by kernel_rfl) (by kernel_rfl) r54

theorem k54 : Contract Try.prog 54 sem54 := c54

theorem c60 : Contract Try.prog 60 sm60 :=
  contract_ofAM (C := cf60) (fun f sem h => (Tab.nil : Tab _) _ (lk_mem' h)) (args := ag60) (alts := al60) (fn := Try.f60) (c := bodyOf Try.f60) (ts := [(4, some 117)]) Try.func60 (by kernel_rfl) (by kernel_rfl) (by kernel_rfl) (by kernel_rfl) (by kernel_rfl) (by kernel_rfl) (by kernel_rfl) r60

theorem k60 : Contract Try.prog 60 sem60 := c60

theorem c61 : Contract Try.prog 61 sm61 :=
  contract_ofM (C := cf61) (fun f sem h => (Tab.nil : Tab _) _ (lk_mem' h)) (S := sg61) (fn := Try.f61) (c := bodyOf Try.f61) (ts := [4]) Try.func61 (by kernel_rfl) (by kernel_rfl) (by kernel_rfl) (by kernel_rfl) (by kernel_rfl) (by kernel_rfl) (by kernel_rfl) r61

theorem k61 : Contract Try.prog 61 sem61 := c61

theorem c65 : Contract Try.prog 65 sm65 :=
  contract_ofAM (C := cf65) (fun f sem h => (Tab.nil : Tab _) _ (lk_mem' h)) (args := ag65) (alts := al65) (fn := Try.f65) (c := bodyOf Try.f65) (ts := [(2, some 117)]) Try.func65 (by kernel_rfl) (by kernel_rfl) (by kernel_rfl) (by kernel_rfl) (by kernel_rfl) (by kernel_rfl) (by kernel_rfl) r65

theorem k65 : Contract Try.prog 65 sem65 := c65

theorem c64 : Contract Try.prog 64 sm64 :=
  contract_ofAM (C := cf64) (fun f sem h => (Tab.nil : Tab _) _ (lk_mem' h)) (args := ag64) (alts := al64) (fn := Try.f64) (c := bodyOf Try.f64) (ts := [(6, some 117), (7, none)]) Try.func64 (by kernel_rfl) (by kernel_rfl) (by kernel_rfl) (by kernel_rfl) (by kernel_rfl) (by kernel_rfl) (by kernel_rfl) r64

theorem k64 : Contract Try.prog 64 sem64 := c64

theorem c62 : Contract Try.prog 62 sm62 :=
  contract_ofAM (C := cf62) (fun f sem h => (Tab.cons k65 (Tab.cons k64 (Tab.cons k61 Tab.nil)) : Tab _) _ (lk_mem' h)) (args := ag62) (alts := al62) (fn := Try.f62) (c := bodyOf Try.f62) (ts := [(4, some 117), (5, none)]) Try.func62 (by kernel_rfl) (by kernel_rfl) (by kernel_rfl) (by kernel_rfl) (by kernel_rfl) (by kernel_rfl) (by kernel_rfl) r62

theorem k62 : Contract Try.prog 62 sem62 := c62

theorem c53 : Contract Try.prog 53 sm53 :=
  contract_ofAM (C := cf53) (fun f sem h => (Tab.cons k60 (Tab.cons k61 (Tab.cons k62 Tab.nil)) : Tab _) _ (lk_mem' h)) (args := ag53) (alts := al53) (fn := Try.f53) (c := bodyOf Try.f53) (ts := [(4, some 117), (5, some 117)]) Try.func53 (by kernel_rfl) (by kernel_rfl) (by kernel_rfl) (by kernel_rfl) (by kernel_rfl) (by kernel_rfl) (by kernel_rfl) r53

theorem k53 : Contract Try.prog 53 sem53 := c53

theorem c55 : Contract Try.prog 55 sm55 :=
  contract_ofM (C := cf55) (fun f sem h => (Tab.nil : Tab _) _ (lk_mem' h)) (S := sg55) (fn := Try.f55) (c := bodyOf Try.f55) (ts := [2, 3]) Try.func55 (by kernel_rfl) (by kernel_rfl) (by kernel_rfl) (by kernel_rfl) (by kernel_rfl) (by kernel_rfl) (by kernel_rfl) r55

theorem k55 : Contract Try.prog 55 sem55 := c55

theorem c44 : Contract Try.prog 44 sm44 :=
  contract_ofM (C := cf44) (fun f sem h => (Tab.cons k46 (Tab.cons k54 (Tab.cons k53 (Tab.cons k55 Tab.nil))) : Tab _) _ (lk_mem' h)) (S := sg44) (fn := Try.f44) (c := bodyOf Try.f44) (ts := [4]) Try.func44 (by kernel_rfl) (by kernel_rfl) (by kernel_rfl) (by kernel_rfl) (by kernel_rfl) (by kernel_rfl) (by kernel_rfl) r44

theorem k44 : Contract Try.prog 44 sem44 := c44

theorem c30 : Contract Try.prog 30 sm30 :=
  contract_ofM (C := cf30) (fun f sem h => (Tab.cons k32 (Tab.cons k45 (Tab.cons k44 Tab.nil)) : Tab _) _ (lk_mem' h)) (S := sg30) (fn := Try.f30) (c := bodyOf Try.f30) (ts := [2]) Try.func30 (by kernel_rfl) (by kernel_rfl) (by kernel_rfl) (by kernel_rfl) (by kernel_rfl) (by kernel_rfl) (by kernel_rfl) r30

theorem k30 : Contract Try.prog 30 sem30 := c30

theorem c31 : Contract Try.prog 31 sm31 :=
  contract_ofM (C := cf31) (fun f sem h => (Tab.cons k45 (Tab.cons k44 Tab.nil) : Tab _) _ (lk_mem' h)) (S := sg31) (fn := Try.f31) (c := bodyOf Try.f31) (ts := [2]) Try.func31 (by kernel_rfl) (by kernel_rfl) (by kernel_rfl) (by kernel_rfl) (by kernel_rfl) (by kernel_rfl) (by kernel_rfl) r31

theorem k31 : Contract Try.prog 31 sem31 := c31

theorem c13 : Contract Try.prog 13 sm13 :=
  contract_ofM (C := cf13) (fun f sem h => (Tab.cons k8 (Tab.cons k30 (Tab.cons k31 Tab.nil)) : Tab _) _ (lk_mem' h)) (S := sg13) (fn := Try.f13) (c := bodyOf Try.f13) (ts := [2]) Try.func13 (by kernel_rfl) (by kernel_rfl) (by kernel_rfl) (by kernel_rfl) (by kernel_rfl) (by kernel_rfl) (by kernel_rfl) r13

theorem k13 : Contract Try.prog 13 sem13 := c13

theorem c14 : Contract Try.prog 14 sm14 :=
  contract_ofM (C := cf14) (fun f sem h => (Tab.cons k11 (Tab.cons k12 Tab.nil) : Tab _) _ (lk_mem' h)) (S := sg14) (fn := Try.f14) (c := bodyOf Try.f14) (ts := [0]) Try.func14 (by kernel_rfl) (by kernel_rfl) (by kernel_rfl) (by kernel_rfl) (by kernel_rfl) (by kernel_rfl) (by kernel_rfl) r14

theorem k14 : Contract Try.prog 14 sem14 := c14

theorem c3 : Contract Try.prog 3 sm3 :=
  contract_ofM (C := cf3) (fun f sem h => (Tab.cons k8 (Tab.cons k9 (Tab.cons k10 (Tab.cons k11 (Tab.cons k12 (Tab.cons k13 (Tab.cons k14 Tab.nil)))))) : Tab _) _ (lk_mem' h)) (S := sg3) (fn := Try.f3) (c := bodyOf Try.f3) (ts := [4]) Try.func3 (by kernel_rfl) (by kernel_rfl) (by kernel_rfl) (by kernel_rfl) (by kernel_rfl) (by kernel_rfl) (by kernel_rfl) r3

theorem k3 : Contract Try.prog 3 sem3 := c3

theorem c33 : Contract Try.prog 33 sm33 :=
  contract_ofM (C := cf33) (fun f sem h => (Tab.nil : Tab _) _ (lk_mem' h)) (S := sg33) (fn := Try.f33) (c := bodyOf Try.f33) (ts := [6]) Try.func33 (by kernel_rfl) (by kernel_rfl) (by kernel_rfl) (by kernel_rfl) (by kernel_rfl) (by kernel_rfl) (by kernel_rfl) r33

theorem k33 : Contract Try.prog 33 sem33 := c33

theorem c17 : Contract Try.prog 17 sm17 :=
  contract_ofM (C := cf17) (fun f sem h => (Tab.cons k25 (Tab.cons k26 (Tab.cons k33 (Tab.cons k34 Tab.nil))) : Tab _) _ (lk_mem' h)) (S := sg17) (fn := Try.f17) (c := bodyOf Try.f17) (ts := [2]) Try.func17 (by kernel_rfl) (by kernel_rfl) (by kernel_rfl) (by kernel_rfl) (by kernel_rfl) (by kernel_rfl) (by kernel_rfl) r17

theorem k17 : Contract Try.prog 17 sem17 := c17

theorem c16 : Contract Try.prog 16 sm16 :=
  contract_ofM (C := cf16) (fun f sem h => (Tab.cons k17 Tab.nil : Tab _) _ (lk_mem' h)) (S := sg16) (fn := Try.f16) (c := bodyOf Try.f16) (ts := [2, 3]) Try.func16 (by kernel_rfl) (by kernel_rfl) (by kernel_rfl) (by kernel_rfl) (by kernel_rfl) (by kernel_rfl) (by kernel_rfl) r16

theorem k16 : Contract Try.prog 16 sem16 := c16

theorem c19 : Contract Try.prog 19 sm19 :=
  contract_ofM (C := cf19) (fun f sem h => (Tab.cons k16 Tab.nil : Tab _) _ (lk_mem' h)) (S := sg19) (fn := Try.f19) (c := bodyOf Try.f19) (ts := [2, 3, 4]) Try.func19 (by kernel_rfl) (by kernel_rfl) (by kernel_rfl) (by kernel_rfl) (by kernel_rfl) (by kernel_rfl) (by kernel_rfl) r19

theorem k19 : Contract Try.prog 19 sem19 := c19

theorem c15 : Contract Try.prog 15 sm15 :=
  contract_ofM (C := cf15) (fun f sem h => (Tab.cons k8 (Tab.cons k32 Tab.nil) : Tab _) _ (lk_mem' h)) (S := sg15) (fn := Try.f15) (c := bodyOf Try.f15) (ts := [2]) Try.func15 (by kernel_rfl) (by kernel_rfl) (by kernel_rfl) (by kernel_rfl) (by kernel_rfl) (by kernel_rfl) (by kernel_rfl) r15

theorem k15 : Contract Try.prog 15 sem15 := c15

theorem c20 : Contract Try.prog 20 sm20 :=
  contract_ofM (C := cf20) (fun f sem h => (Tab.nil : Tab _) _ (lk_mem' h)) (S := sg20) (fn := Try.f20) (c := bodyOf Try.f20) (ts := [2, 3]) Try.func20 (by kernel_rfl) (by kernel_rfl) (by kernel_rfl) (by kernel_rfl) (by kernel_rfl) (by kernel_rfl) (by kernel_rfl) r20

theorem k20 : Contract Try.prog 20 sem20 := c20

theorem c21 : Contract Try.prog 21 sm21 :=
  contract_ofAM (C := cf21) (fun f sem h => (Tab.nil : Tab _) _ (lk_mem' h)) (args := ag21) (alts := al21) (fn := Try.f21) (c := bodyOf Try.f21) (ts := [(2, some 57)]) Try.func21 (by kernel_rfl) (by kernel_rfl) (by kernel_rfl) (by kernel_rfl) (by kernel_rfl) (by kernel_rfl) (by kernel_rfl) r21

theorem k21 : Contract Try.prog 21 sem21 := c21

theorem c5 : Contract Try.prog 5 sm5 :=
  contract_ofM (C := cf5) (fun f sem h => (Tab.cons k14 (Tab.cons k19 (Tab.cons k15 (Tab.cons k20 (Tab.cons k11 (Tab.cons k8 (Tab.cons k21 Tab.nil)))))) : Tab _) _ (lk_mem' h)) (S := sg5) (fn := Try.f5) (c := bodyOf Try.f5) (ts := [2]) Try.func5 (by kernel_rfl) (by kernel_rfl) (by kernel_rfl) (by kernel_rfl) (by kernel_rfl) (by kernel_rfl) (by kernel_rfl) r5

theorem k5 : Contract Try.prog 5 sem5 := c5

theorem c35 : Contract Try.prog 35 sm35 :=
  contract_ofAM (C := cf35) (fun f sem h => (Tab.nil : Tab _) _ (lk_mem' h)) (args := ag35) (alts := al35) (fn := Try.f35) (c := bodyOf Try.f35) (ts := [(2, some 27)]) Try.func35 (by kernel_rfl) (by kernel_rfl) (by kernel_rfl) (by kernel_rfl) (by kernel_rfl) (by kernel_rfl) (by kernel_rfl) r35

theorem k35 : Contract Try.prog 35 sem35 := c35

theorem c36 : Contract Try.prog 36 sm36 :=
  contract_ofM (C := cf36) (fun f sem h => (Tab.nil : Tab _) _ (lk_mem' h)) (S := sg36) (fn := Try.f36) (c := bodyOf Try.f36) (ts := [4]) Try.func36 (by kernel_rfl) (by kernel_rfl) (by kernel_rfl) (by kernel_rfl) (by kernel_rfl) (by kernel_rfl) (by kernel_rfl) r36

theorem k36 : Contract Try.prog 36 sem36 := c36

theorem c22 : Contract Try.prog 22 sm22 :=
  contract_ofAM (C := cf22) (fun f sem h => (Tab.nil : Tab _) _ (lk_mem' h)) (args := ag22) (alts := al22) (fn := Try.f22) (c := bodyOf Try.f22) (ts := [(2, some 27), (3, none)]) Try.func22 (by kernel_rfl) (by kernel_rfl) (by kernel_rfl) (by kernel_rfl) (by kernel_rfl) (by kernel_rfl) (by kernel_rfl) r22

theorem c22a : Contract Try.prog 22 sm22a :=
  contract_ofAM (C := cf22a) (fun f sem h => (Tab.cons k35 (Tab.cons k16 (Tab.cons k36 Tab.nil)) : Tab _) _ (lk_mem' h)) (args := ag22a) (alts := al22a) (fn := Try.f22) (c := bodyOf Try.f22) (ts := [(2, some 27), (3, none)]) Try.func22 (by kernel_rfl) (by kernel_rfl) (by kernel_rfl) (by kernel_rfl) (by kernel_rfl) (by kernel_rfl) (by kernel_rfl) r22a

theorem k22 : Contract Try.prog 22 sem22 := contract_or c22 (c22a)

theorem c6 : Contract Try.prog 6 sm6 :=
  contract_ofM (C := cf6) (fun f sem h => (Tab.cons k22 (Tab.cons k16 (Tab.cons k14 Tab.nil)) : Tab _) _ (lk_mem' h)) (S := sg6) (fn := Try.f6) (c := bodyOf Try.f6) (ts := [2]) Try.func6 (by kernel_rfl) (by kernel_rfl) (by kernel_rfl) (by kernel_rfl) (by kernel_rfl) (by kernel_rfl) (by kernel_rfl) r6

theorem k6 : Contract Try.prog 6 sem6 := c6

theorem c18 : Contract Try.prog 18 sm18 :=
  contract_ofM (C := cf18) (fun f sem h => (Tab.nil : Tab _) _ (lk_mem' h)) (S := sg18) (fn := Try.f18) (c := bodyOf Try.f18) (ts := [2]) Try.func18 (by kernel_rfl) (by kernel_rfl) (by kernel_rfl) (by kernel_rfl) (by kernel_rfl) (by kernel_rfl) (by kernel_rfl) r18

theorem c18a : Contract Try.prog 18 sm18a :=
  contract_ofM (C := cf18a) (fun f sem h => (Tab.nil : Tab _) _ (lk_mem' h)) (S := sg18a) (fn := Try.f18) (c := bodyOf Try.f18) (ts := [2]) Try.func18 (by kernel_rfl) (by kernel_rfl) (by kernel_rfl) (by kernel_rfl) (by kernel_rfl) (by kernel_rfl) (by kernel_rfl) r18a

theorem c18b : Contract Try.prog 18 sm18b :=
  contract_ofM (C := cf18b) (fun f sem h => (Tab.nil : Tab _) _ (lk_mem' h)) (S := sg18b) (fn := Try.f18) (c := bodyOf Try.f18) (ts := [2]) Try.func18 (by kernel_rfl) (by kernel_rfl) (by kernel_rfl) (by kernel_rfl) (by kernel_rfl) (by kernel_rfl) (by kernel_rfl) r18b

theorem c18c : Contract Try.prog 18 sm18c :=
  contract_ofM (C := cf18c) (fun f sem h => (Tab.nil : Tab _) _ (lk_mem' h)) (S := sg18c) (fn := Try.f18) (c := bodyOf Try.f18) (ts := [2]) Try.func18 (by kernel_rfl) (by kernel_rfl) (by kernel_rfl) (by kernel_rfl) (by kernel_rfl) (by kernel_rfl) (by kernel_rfl) r18c

theorem c18d : Contract Try.prog 18 sm18d :=
  contract_ofM (C := cf18d) (fun f sem h => (Tab.nil : Tab _) _ (lk_mem' h)) (S := sg18d) (fn := Try.f18) (c := bodyOf Try.f18) (ts := [2]) Try.func18 (by kernel_rfl) (by kernel_rfl) (by kernel_rfl) (by kernel_rfl) (by kernel_rfl) (by kernel_rfl) (by kernel_rfl) r18d

theorem c18e : Contract Try.prog 18 sm18e :=
  contract_ofM (C := cf18e) (fun f sem h => (Tab.nil : Tab _) _ (lk_mem' h)) (S := sg18e) (fn := Try.f18) (c := bodyOf Try.f18) (ts := [2]) Try.func18 (by kernel_rfl) (by kernel_rfl) (by kernel_rfl) (by kernel_rfl) (by kernel_rfl) (by kernel_rfl) (by kernel_rfl) r18e

theorem c18f : Contract Try.prog 18 sm18f :=
  contract_ofM (C := cf18f) (fun f sem h => (Tab.nil : Tab _) _ (lk_mem' h)) (S := sg18f) (fn := Try.f18) (c := bodyOf Try.f18) (ts := [2]) Try.func18 (by kernel_rfl) (by kernel_rfl) (by kernel_rfl) (by kernel_rfl) (by kernel_rfl) (by kernel_rfl) (by kernel_rfl) r18f

theorem c18g : Contract Try.prog 18 sm18g :=
  contract_ofM (C := cf18g) (fun f sem h => (Tab.nil : Tab _) _ (lk_mem' h)) (S := sg18g) (fn := Try.f18) (c := bodyOf Try.f18) (ts := [2]) Try.func18 (by kernel_rfl) (by kernel_rfl) (by kernel_rfl) (by kernel_rfl) (by kernel_rfl) (by kernel_rfl) (by kernel_rfl) r18g

theorem c18h : Contract Try.prog 18 sm18h :=
  contract_ofM (C := cf18h) (fun f sem h => (Tab.nil : Tab _) _ (lk_mem' h)) (S := sg18h) (fn := Try.f18) (c := bodyOf Try.f18) (ts := [2]) Try.func18 (by kernel_rfl) (by kernel_rfl) (by kernel_rfl) (by kernel_rfl) (by kernel_rfl) (by kernel_rfl) (by kernel_rfl) r18h

theorem k18 : Contract Try.prog 18 sem18 := contract_or c18 (contract_or c18a (contract_or c18b (contract_or c18c (contract_or c18d (contract_or c18e (contract_or c18f (contract_or c18g (c18h))))))))

theorem c81 : Contract Try.prog 81 sm81 :=
  contract_ofM (C := cf81) (fun f sem h => (Tab.nil : Tab _) _ (lk_mem' h)) (S := sg81) (fn := Try.f81) (c := bodyOf Try.f81) (ts := [2]) Try.func81 (by kernel_rfl) (by kernel_rfl) (by kernel_rfl) (by kernel_rfl) (by kernel_rfl) (by kernel_rfl) (by kernel_rfl) r81

theorem k81 : Contract Try.prog 81 sem81 := c81

theorem c82 : Contract Try.prog 82 sm82 :=
  contract_ofM (C := cf82) (fun f sem h => (Tab.nil : Tab _) _ (lk_mem' h)) (S := sg82) (fn := Try.f82) (c := bodyOf Try.f82) (ts := [2]) Try.func82 (by kernel_rfl) (by kernel_rfl) (by kernel_rfl) (by kernel_rfl) (by kernel_rfl) (by kernel_rfl) (by kernel_rfl) r82

theorem k82 : Contract Try.prog 82 sem82 := c82

theorem c83 : Contract Try.prog 83 sm83 :=
  contract_ofM (C := cf83) (fun f sem h => (Tab.nil : Tab _) _ (lk_mem' h)) (S := sg83) (fn := Try.f83) (c := bodyOf Try.f83) (ts := [2]) Try.func83 (by kernel_rfl) (by kernel_rfl) (by kernel_rfl) (by kernel_rfl) (by kernel_rfl) (by kernel_rfl) (by kernel_rfl) r83

theorem k83 : Contract Try.prog 83 sem83 := c83

theorem c84 : Contract Try.prog 84 sm84 :=
  contract_ofM (C := cf84) (fun f sem h => (Tab.nil : Tab _) _ (lk_mem' h)) (S := sg84) (fn := Try.f84) (c := bodyOf Try.f84) (ts := [2]) Try.func84 (by kernel_rfl) (by kernel_rfl) (by kernel_rfl) (by kernel_rfl) (by kernel_rfl) (by kernel_rfl) (by kernel_rfl) r84

theorem k84 : Contract Try.prog 84 sem84 := c84

theorem c85 : Contract Try.prog 85 sm85 :=
  contract_ofM (C := cf85) (fun f sem h => (Tab.nil : Tab _) _ (lk_mem' h)) (S := sg85) (fn := Try.f85) (c := bodyOf Try.f85) (ts := [2]) Try.func85 (by kernel_rfl) (by kernel_rfl) (by kernel_rfl) (by kernel_rfl) (by kernel_rfl) (by kernel_rfl) (by kernel_rfl) r85

theorem k85 : Contract Try.prog 85 sem85 := c85

theorem c86 : Contract Try.prog 86 sm86 :=
  contract_ofM (C := cf86) (fun f sem h => (Tab.nil : Tab _) _ (lk_mem' h)) (S := sg86) (fn := Try.f86) (c := bodyOf Try.f86) (ts := [2]) Try.func86 (by kernel_rfl) (by kernel_rfl) (by kernel_rfl) (by kernel_rfl) (by kernel_rfl) (by kernel_rfl) (by kernel_rfl) r86

theorem k86 : Contract Try.prog 86 sem86 := c86

theorem c87 : Contract Try.prog 87 sm87 :=
  contract_ofM (C := cf87) (fun f sem h => (Tab.nil : Tab _) _ (lk_mem' h)) (S := sg87) (fn := Try.f87) (c := bodyOf Try.f87) (ts := [2]) Try.func87 (by kernel_rfl) (by kernel_rfl) (by kernel_rfl) (by kernel_rfl) (by kernel_rfl) (by kernel_rfl) (by kernel_rfl) r87

theorem k87 : Contract Try.prog 87 sem87 := c87

theorem c88 : Contract Try.prog 88 sm88 :=
  contract_ofM (C := cf88) (fun f sem h => (Tab.nil : Tab _) _ (lk_mem' h)) (S := sg88) (fn := Try.f88) (c := bodyOf Try.f88) (ts := [2]) Try.func88 (by kernel_rfl) (by kernel_rfl) (by kernel_rfl) (by kernel_rfl) (by kernel_rfl) (by kernel_rfl) (by kernel_rfl) r88

theorem k88 : Contract Try.prog 88 sem88 := c88

theorem c89 : Contract Try.prog 89 sm89 :=
  contract_ofM (C := cf89) (fun f sem h => (Tab.nil : Tab _) _ (lk_mem' h)) (S := sg89) (fn := Try.f89) (c := bodyOf Try.f89) (ts := [2]) Try.func89 (by kernel_rfl) (by kernel_rfl) (by kernel_rfl) (by kernel_rfl) (by kernel_rfl) (by kernel_rfl) (by kernel_rfl) r89

theorem k89 : Contract Try.prog 89 sem89 := c89

theorem c90 : Contract Try.prog 90 sm90 :=
  contract_ofM (C := cf90) (fun f sem h => (Tab.nil : Tab _) _ (lk_mem' h)) (S := sg90) (fn := Try.f90) (c := bodyOf Try.f90) (ts := [2]) Try.func90 (by kernel_rfl) (by kernel_rfl) (by kernel_rfl) (by kernel_rfl) (by kernel_rfl) (by kernel_rfl) (by kernel_rfl) r90

theorem k90 : Contract Try.prog 90 sem90 := c90

theorem c91 : Contract Try.prog 91 sm91 :=
  contract_ofM (C := cf91) (fun f sem h => (Tab.nil : Tab _) _ (lk_mem' h)) (S := sg91) (fn := Try.f91) (c := bodyOf Try.f91) (ts := [2]) Try.func91 (by kernel_rfl) (by kernel_rfl) (by kernel_rfl) (by kernel_rfl) (by kernel_rfl) (by kernel_rfl) (by kernel_rfl) r91

theorem k91 : Contract Try.prog 91 sem91 := c91

theorem c4 : Contract Try.prog 4 sm4 :=
  contract_ofM (C := cf4) (fun f sem h => (Tab.cons k15 (Tab.cons k16 (Tab.cons k17 (Tab.cons k14 (Tab.cons k18 (Tab.cons k8 (Tab.cons k81 (Tab.cons k82 (Tab.cons k83 (Tab.cons k84 (Tab.cons k85 (Tab.cons k86 (Tab.cons k87 (Tab.cons k88 (Tab.cons k89 (Tab.cons k90 (Tab.cons k91 Tab.nil)))))))))))))))) : Tab _) _ (lk_mem' h)) (S := sg4) (fn := Try.f4) (c := bodyOf Try.f4) (ts := [2]) Try.func4 (by kernel_rfl) (by kernel_rfl) (by kernel_rfl) (by kernel_rfl) (by kernel_rfl) (by kernel_rfl) (by kernel_rfl) r4

theorem k4 : Contract Try.prog 4 sem4 := c4

end Go.Proofs.Ytgaeodfbejbbeaa
