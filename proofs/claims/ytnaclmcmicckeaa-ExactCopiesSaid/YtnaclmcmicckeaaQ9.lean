/- The functions of this seat, and the laws as plain Lean. -/
import Derived.Test.YtnaclmcmicckeaaProg
import Derived.Test.YtnaclmcmicckeaaQ8

set_option linter.unusedSimpArgs false
set_option linter.unusedVariables false

namespace Go.Proofs.Ytnaclmcmicckeaa
open Go Go.Pv Go.Proofs Go.Shelf
set_option maxRecDepth 100000

def laysSort_ren : Go.Shelf.Ren := ⟨fun | 6 => 29 | 15 => 42 | 14 => 41 | 28 => 57 | 29 => 58 | 20 => 49 | 21 => 50 | 22 => 51 | 23 => 52 | 24 => 53 | 25 => 54 | 26 => 55 | 27 => 56 | 46 => 61 | 47 => 62 | 48 => 63 | 49 => 64 | 50 => 65 | 57 => 66 | n => n, fun | 22 => 43 | 24 => 47 | 25 => 73 | 3 => 3 | 39 => 82 | 0 => 0 | 53 => 100 | 55 => 23 | 4 => 4 | 46 => 94 | 45 => 93 | 50 => 35 | 5 => 5 | 9 => 9 | 66 => 105 | 70 => 109 | 76 => 111 | 77 => 112 | n => n, fun | n => n⟩
theorem laysSort : Go.Proofs.SlLaysF0.n6 Try.prog laysSort_ren := {
 mixed := by kernel_rfl,
 f6 := ⟨"slices.SortFunc[[]shunter/exact.Item,shunter/exact.Item]", by decide, Try.func29.trans (congrArg some (by kernel_rfl))⟩,
 f14 := ⟨"slices.pdqsortCmpFunc[shunter/exact.Item]", by decide, Try.func41.trans (congrArg some (by kernel_rfl))⟩,
 f15 := Try.func42.trans (congrArg some (by kernel_rfl)),
 f20 := ⟨"slices.insertionSortCmpFunc[shunter/exact.Item]", by decide, Try.func49.trans (congrArg some (by kernel_rfl))⟩,
 f21 := ⟨"slices.heapSortCmpFunc[shunter/exact.Item]", by decide, Try.func50.trans (congrArg some (by kernel_rfl))⟩,
 f22 := ⟨"slices.breakPatternsCmpFunc[shunter/exact.Item]", by decide, Try.func51.trans (congrArg some (by kernel_rfl))⟩,
 f23 := ⟨"slices.choosePivotCmpFunc[shunter/exact.Item]", by decide, Try.func52.trans (congrArg some (by kernel_rfl))⟩,
 f24 := ⟨"slices.reverseRangeCmpFunc[shunter/exact.Item]", by decide, Try.func53.trans (congrArg some (by kernel_rfl))⟩,
 f25 := ⟨"slices.partialInsertionSortCmpFunc[shunter/exact.Item]", by decide, Try.func54.trans (congrArg some (by kernel_rfl))⟩,
 f26 := ⟨"slices.partitionEqualCmpFunc[shunter/exact.Item]", by decide, Try.func55.trans (congrArg some (by kernel_rfl))⟩,
 f27 := ⟨"slices.partitionCmpFunc[shunter/exact.Item]", by decide, Try.func56.trans (congrArg some (by kernel_rfl))⟩,
 f28 := Try.func57.trans (congrArg some (by kernel_rfl)),
 f29 := Try.func58.trans (congrArg some (by kernel_rfl)),
 f46 := ⟨"slices.siftDownCmpFunc[shunter/exact.Item]", by decide, Try.func61.trans (congrArg some (by kernel_rfl))⟩,
 f47 := Try.func62.trans (congrArg some (by kernel_rfl)),
 f48 := Try.func63.trans (congrArg some (by kernel_rfl)),
 f49 := ⟨"slices.medianAdjacentCmpFunc[shunter/exact.Item]", by decide, Try.func64.trans (congrArg some (by kernel_rfl))⟩,
 f50 := ⟨"slices.medianCmpFunc[shunter/exact.Item]", by decide, Try.func65.trans (congrArg some (by kernel_rfl))⟩,
 f57 := ⟨"slices.order2CmpFunc[shunter/exact.Item]", by decide, Try.func66.trans (congrArg some (by kernel_rfl))⟩,
 t0 := Try.underlying0,
 a0 := Try.isAgg0,
 z0 := Try.sizeOf0,
 v0 := Try.zeroValue0,
 t3 := Try.underlying3,
 a3 := Try.isAgg3,
 z3 := Try.sizeOf3,
 v3 := Try.zeroValue3,
 t4 := Try.underlying4,
 a4 := Try.isAgg4,
 z4 := Try.sizeOf4,
 v4 := Try.zeroValue4,
 t5 := Try.underlying5,
 a5 := Try.isAgg5,
 z5 := Try.sizeOf5,
 v5 := Try.zeroValue5,
 t9 := Try.underlying9,
 a9 := Try.isAgg9,
 z9 := Try.sizeOf9,
 v9 := Try.zeroValue9,
 t22 := Try.underlying43,
 a22 := Try.isAgg43,
 z22 := Try.sizeOf43,
 v22 := Try.zeroValue43,
 t25 := Try.underlying73,
 a25 := Try.isAgg73,
 z25 := Try.sizeOf73,
 v25 := Try.zeroValue73,
 t39 := Try.underlying82,
 a39 := Try.isAgg82,
 z39 := Try.sizeOf82,
 v39 := Try.zeroValue82,
 t45 := Try.underlying93,
 a45 := Try.isAgg93,
 z45 := Try.sizeOf93,
 v45 := Try.zeroValue93,
 t46 := Try.underlying94,
 a46 := Try.isAgg94,
 z46 := Try.sizeOf94,
 v46 := Try.zeroValue94,
 t50 := Try.underlying35,
 a50 := Try.isAgg35,
 z50 := Try.sizeOf35,
 v50 := Try.zeroValue35,
 t53 := Try.underlying100,
 a53 := Try.isAgg100,
 z53 := Try.sizeOf100,
 v53 := Try.zeroValue100,
 t55 := Try.underlying23,
 a55 := Try.isAgg23,
 z55 := Try.sizeOf23,
 v55 := Try.zeroValue23,
 t66 := Try.underlying105,
 a66 := Try.isAgg105,
 z66 := Try.sizeOf105,
 v66 := Try.zeroValue105,
 t70 := Try.underlying109,
 a70 := Try.isAgg109,
 z70 := Try.sizeOf109,
 v70 := Try.zeroValue109,
 t76 := Try.underlying111,
 a76 := Try.isAgg111,
 z76 := Try.sizeOf111,
 v76 := Try.zeroValue111,
 t77 := Try.underlying112,
 a77 := Try.isAgg112,
 z77 := Try.sizeOf112,
 v77 := Try.zeroValue112 }

end Go.Proofs.Ytnaclmcmicckeaa

namespace Go.Proofs.Ytnaclmcmicckeaa
open Go Go.Pv Go.Proofs Go.L
set_option maxRecDepth 100000

theorem c22 {dr : Bool} : ContractD dr Try.prog 22 sm22 :=
 contract_ofAM (C := cf22) (fun f sem h => (Tab.nil : Tab dr _) _ (lk_mem' h)) (args := ag22) (alts := al22) (fn := Try.f22) (c := bodyOf Try.f22) (ts := [(4, some 54)]) Try.func22 (by kernel_rfl) (by kernel_rfl) (by kernel_rfl) (by kernel_rfl) (by kernel_rfl) (by kernel_rfl) (by kernel_rfl) r22

theorem k22 {dr : Bool} : ContractD dr Try.prog 22 sem22 := c22

theorem c21 {dr : Bool} : ContractD dr Try.prog 21 sm21 :=
 contract_ofM (C := cf21) (fun f sem h => (Tab.nil : Tab dr _) _ (lk_mem' h)) (S := sg21) (fn := Try.f21) (c := bodyOf Try.f21) (ts := [2]) Try.func21 (by kernel_rfl) (by kernel_rfl) (by kernel_rfl) (by kernel_rfl) (by kernel_rfl) (by kernel_rfl) (by kernel_rfl) r21

theorem k21 {dr : Bool} : ContractD dr Try.prog 21 sem21 := c21

theorem c7 {dr : Bool} : ContractD dr Try.prog 7 sm7 :=
 contract_ofM (C := cf7) (fun f sem h => (Tab.cons k22 (Tab.cons k21 Tab.nil) : Tab dr _) _ (lk_mem' h)) (S := sg7) (fn := Try.f7) (c := bodyOf Try.f7) (ts := [2]) Try.func7 (by kernel_rfl) (by kernel_rfl) (by kernel_rfl) (by kernel_rfl) (by kernel_rfl) (by kernel_rfl) (by kernel_rfl) r7

theorem k7 {dr : Bool} : ContractD dr Try.prog 7 sem7 := c7

theorem c9 {dr : Bool} : ContractD dr Try.prog 9 sm9 :=
 contract_ofAM (C := cf9) (fun f sem h => (Tab.nil : Tab dr _) _ (lk_mem' h)) (args := ag9) (alts := al9) (fn := Try.f9) (c := bodyOf Try.f9) (ts := [(2, none)]) Try.func9 (by kernel_rfl) (by kernel_rfl) (by kernel_rfl) (by kernel_rfl) (by kernel_rfl) (by kernel_rfl) (by kernel_rfl) r9

theorem k9 {dr : Bool} : ContractD dr Try.prog 9 sem9 := c9

theorem c47 {dr : Bool} : ContractD dr Try.prog 47 sm47 :=
 contract_ofM (C := cf47) (fun f sem h => (Tab.nil : Tab dr _) _ (lk_mem' h)) (S := sg47) (fn := Try.f47) (c := bodyOf Try.f47) (ts := [2]) Try.func47 (by kernel_rfl) (by kernel_rfl) (by kernel_rfl) (by kernel_rfl) (by kernel_rfl) (by kernel_rfl) (by kernel_rfl) r47

theorem k47 {dr : Bool} : ContractD dr Try.prog 47 sem47 := c47

theorem c34 {dr : Bool} : ContractD dr Try.prog 34 sm34 :=
 contract_ofAM (C := cf34) (fun f sem h => (Tab.nil : Tab dr _) _ (lk_mem' h)) (args := ag34) (alts := al34) (fn := Try.f34) (c := bodyOf Try.f34) (ts := [(2, some 71)]) Try.func34 (by kernel_rfl) (by kernel_rfl) (by kernel_rfl) (by kernel_rfl) (by kernel_rfl) (by kernel_rfl) (by kernel_rfl) r34

theorem k34 {dr : Bool} : ContractD dr Try.prog 34 sem34 := c34

theorem c58 {dr : Bool} : ContractD dr Try.prog 58 sm58 :=
 contract_ofM (C := cf58) (fun f sem h => (Tab.nil : Tab dr _) _ (lk_mem' h)) (S := sg58) (fn := Try.f58) (c := bodyOf Try.f58) (ts := [2]) Try.func58 (by kernel_rfl) (by kernel_rfl) (by kernel_rfl) (by kernel_rfl) (by kernel_rfl) (by kernel_rfl) (by kernel_rfl) r58

theorem k58 {dr : Bool} : ContractD dr Try.prog 58 sem58 := c58

theorem c48 {dr : Bool} : ContractD dr Try.prog 48 sm48 :=
 contract_ofM (C := cf48) (fun f sem h => (Tab.cons k58 Tab.nil : Tab dr _) _ (lk_mem' h)) (S := sg48) (fn := Try.f48) (c := bodyOf Try.f48) (ts := [2]) Try.func48 (by kernel_rfl) (by kernel_rfl) (by kernel_rfl) (by kernel_rfl) (by kernel_rfl) (by kernel_rfl) (by kernel_rfl) r48

theorem k48 {dr : Bool} : ContractD dr Try.prog 48 sem48 := c48

theorem c37 {dr : Bool} : ContractD dr Try.prog 37 sm37 :=
 contract_ofM (C := cf37) (fun f sem h => (Tab.cons k47 (Tab.cons k34 (Tab.cons k48 Tab.nil)) : Tab dr _) _ (lk_mem' h)) (S := sg37) (fn := Try.f37) (c := bodyOf Try.f37) (ts := [2]) Try.func37 (by kernel_rfl) (by kernel_rfl) (by kernel_rfl) (by kernel_rfl) (by kernel_rfl) (by kernel_rfl) (by kernel_rfl) r37

theorem k37 {dr : Bool} : ContractD dr Try.prog 37 sem37 := c37

theorem c23 {dr : Bool} : ContractD dr Try.prog 23 sm23 :=
 contract_ofM (C := cf23) (fun f sem h => (Tab.cons k37 Tab.nil : Tab dr _) _ (lk_mem' h)) (S := sg23) (fn := Try.f23) (c := bodyOf Try.f23) (ts := [4]) Try.func23 (by kernel_rfl) (by kernel_rfl) (by kernel_rfl) (by kernel_rfl) (by kernel_rfl) (by kernel_rfl) (by kernel_rfl) r23

theorem c23a {dr : Bool} : ContractD dr Try.prog 23 sm23a :=
 contract_ofM (C := cf23a) (fun f sem h => (Tab.cons k37 Tab.nil : Tab dr _) _ (lk_mem' h)) (S := sg23a) (fn := Try.f23) (c := bodyOf Try.f23) (ts := [4]) Try.func23 (by kernel_rfl) (by kernel_rfl) (by kernel_rfl) (by kernel_rfl) (by kernel_rfl) (by kernel_rfl) (by kernel_rfl) r23a

theorem k23 {dr : Bool} : ContractD dr Try.prog 23 sem23 := contract_or c23 (c23a)

theorem c38 {dr : Bool} : ContractD dr Try.prog 38 sm38 :=
 contract_ofM (C := cf38) (fun f sem h => (Tab.nil : Tab dr _) _ (lk_mem' h)) (S := sg38) (fn := Try.f38) (c := bodyOf Try.f38) (ts := [4]) Try.func38 (by kernel_rfl) (by kernel_rfl) (by kernel_rfl) (by kernel_rfl) (by kernel_rfl) (by kernel_rfl) (by kernel_rfl) r38

theorem k38 {dr : Bool} : ContractD dr Try.prog 38 sem38 := c38

theorem c39 {dr : Bool} : ContractD dr Try.prog 39 sm39 :=
 contract_ofM (C := cf39) (fun f sem h => (Tab.nil : Tab dr _) _ (lk_mem' h)) (S := sg39) (fn := Try.f39) (c := bodyOf Try.f39) (ts := [4]) Try.func39 (by kernel_rfl) (by kernel_rfl) (by kernel_rfl) (by kernel_rfl) (by kernel_rfl) (by kernel_rfl) (by kernel_rfl) r39

theorem k39 {dr : Bool} : ContractD dr Try.prog 39 sem39 := c39

theorem c24 {dr : Bool} : ContractD dr Try.prog 24 sm24 :=
 contract_ofM (C := cf24) (fun f sem h => (Tab.cons k38 (Tab.cons k39 Tab.nil) : Tab dr _) _ (lk_mem' h)) (S := sg24) (fn := Try.f24) (c := bodyOf Try.f24) (ts := [4, 5]) Try.func24 (by kernel_rfl) (by kernel_rfl) (by kernel_rfl) (by kernel_rfl) (by kernel_rfl) (by kernel_rfl) (by kernel_rfl) r24

theorem k24 {dr : Bool} : ContractD dr Try.prog 24 sem24 := c24

theorem c10 {dr : Bool} : ContractD dr Try.prog 10 sm10 :=
 contract_ofM (C := cf10) (fun f sem h => (Tab.cons k23 (Tab.cons k24 Tab.nil) : Tab dr _) _ (lk_mem' h)) (S := sg10) (fn := Try.f10) (c := bodyOf Try.f10) (ts := [6]) Try.func10 (by kernel_rfl) (by kernel_rfl) (by kernel_rfl) (by kernel_rfl) (by kernel_rfl) (by kernel_rfl) (by kernel_rfl) r10

theorem c10a {dr : Bool} : ContractD dr Try.prog 10 sm10a :=
 contract_ofM (C := cf10a) (fun f sem h => (Tab.cons k23 Tab.nil : Tab dr _) _ (lk_mem' h)) (S := sg10a) (fn := Try.f10) (c := bodyOf Try.f10) (ts := [6]) Try.func10 (by kernel_rfl) (by kernel_rfl) (by kernel_rfl) (by kernel_rfl) (by kernel_rfl) (by kernel_rfl) (by kernel_rfl) r10a

theorem k10 {dr : Bool} : ContractD dr Try.prog 10 sem10 := contract_or c10 (c10a)

theorem c13 {dr : Bool} : ContractD dr Try.prog 13 sm13 :=
 contract_ofM (C := cf13) (fun f sem h => (Tab.cons k23 (Tab.cons k24 Tab.nil) : Tab dr _) _ (lk_mem' h)) (S := sg13) (fn := Try.f13) (c := bodyOf Try.f13) (ts := [4, 5]) Try.func13 (by kernel_rfl) (by kernel_rfl) (by kernel_rfl) (by kernel_rfl) (by kernel_rfl) (by kernel_rfl) (by kernel_rfl) r13

theorem c13a {dr : Bool} : ContractD dr Try.prog 13 sm13a :=
 contract_ofM (C := cf13a) (fun f sem h => (Tab.cons k23 Tab.nil : Tab dr _) _ (lk_mem' h)) (S := sg13a) (fn := Try.f13) (c := bodyOf Try.f13) (ts := [4, 5]) Try.func13 (by kernel_rfl) (by kernel_rfl) (by kernel_rfl) (by kernel_rfl) (by kernel_rfl) (by kernel_rfl) (by kernel_rfl) r13a

theorem k13 {dr : Bool} : ContractD dr Try.prog 13 sem13 := contract_or c13 (c13a)

theorem c8 {dr : Bool} : ContractD dr Try.prog 8 sm8 :=
 contract_ofM (C := cf8) (fun f sem h => (Tab.cons k9 (Tab.cons k10 (Tab.cons k13 Tab.nil)) : Tab dr _) _ (lk_mem' h)) (S := sg8) (fn := Try.f8) (c := bodyOf Try.f8) (ts := [0]) Try.func8 (by kernel_rfl) (by kernel_rfl) (by kernel_rfl) (by kernel_rfl) (by kernel_rfl) (by kernel_rfl) (by kernel_rfl) r8

theorem k8 {dr : Bool} : ContractD dr Try.prog 8 sem8 := c8

theorem c11 {dr : Bool} : ContractD dr Try.prog 11 sm11 :=
 contract_ofM (C := cf11) (fun f sem h => (Tab.cons k23 (Tab.cons k24 Tab.nil) : Tab dr _) _ (lk_mem' h)) (S := sg11) (fn := Try.f11) (c := bodyOf Try.f11) (ts := [6]) Try.func11 (by kernel_rfl) (by kernel_rfl) (by kernel_rfl) (by kernel_rfl) (by kernel_rfl) (by kernel_rfl) (by kernel_rfl) r11

theorem c11a {dr : Bool} : ContractD dr Try.prog 11 sm11a :=
 contract_ofM (C := cf11a) (fun f sem h => (Tab.cons k23 Tab.nil : Tab dr _) _ (lk_mem' h)) (S := sg11a) (fn := Try.f11) (c := bodyOf Try.f11) (ts := [6]) Try.func11 (by kernel_rfl) (by kernel_rfl) (by kernel_rfl) (by kernel_rfl) (by kernel_rfl) (by kernel_rfl) (by kernel_rfl) r11a

theorem k11 {dr : Bool} : ContractD dr Try.prog 11 sem11 := contract_or c11 (c11a)

theorem c40 {dr : Bool} : ContractD dr Try.prog 40 sm40 :=
 contract_ofM (C := cf40) (fun f sem h => (Tab.nil : Tab dr _) _ (lk_mem' h)) (S := sg40) (fn := Try.f40) (c := bodyOf Try.f40) (ts := [6]) Try.func40 (by kernel_rfl) (by kernel_rfl) (by kernel_rfl) (by kernel_rfl) (by kernel_rfl) (by kernel_rfl) (by kernel_rfl) r40

theorem k40 {dr : Bool} : ContractD dr Try.prog 40 sem40 := c40

theorem c25 {dr : Bool} : ContractD dr Try.prog 25 sm25 :=
 contract_ofM (C := cf25) (fun f sem h => (Tab.cons k39 (Tab.cons k38 (Tab.cons k40 Tab.nil)) : Tab dr _) _ (lk_mem' h)) (S := sg25) (fn := Try.f25) (c := bodyOf Try.f25) (ts := []) Try.func25 (by kernel_rfl) (by kernel_rfl) (by kernel_rfl) (by kernel_rfl) (by kernel_rfl) (by kernel_rfl) (by kernel_rfl) r25

theorem k25 {dr : Bool} : ContractD dr Try.prog 25 sem25 := c25

theorem c12 {dr : Bool} : ContractD dr Try.prog 12 sm12 :=
 contract_ofM (C := cf12) (fun f sem h => (Tab.cons k23 (Tab.cons k24 (Tab.cons k25 Tab.nil)) : Tab dr _) _ (lk_mem' h)) (S := sg12) (fn := Try.f12) (c := bodyOf Try.f12) (ts := [4]) Try.func12 (by kernel_rfl) (by kernel_rfl) (by kernel_rfl) (by kernel_rfl) (by kernel_rfl) (by kernel_rfl) (by kernel_rfl) r12

theorem c12a {dr : Bool} : ContractD dr Try.prog 12 sm12a :=
 contract_ofM (C := cf12a) (fun f sem h => (Tab.cons k23 Tab.nil : Tab dr _) _ (lk_mem' h)) (S := sg12a) (fn := Try.f12) (c := bodyOf Try.f12) (ts := [4]) Try.func12 (by kernel_rfl) (by kernel_rfl) (by kernel_rfl) (by kernel_rfl) (by kernel_rfl) (by kernel_rfl) (by kernel_rfl) r12a

theorem k12 {dr : Bool} : ContractD dr Try.prog 12 sem12 := contract_or c12 (c12a)

theorem c3 {dr : Bool} : ContractD dr Try.prog 3 sm3 :=
 contract_ofM (C := cf3) (fun f sem h => (Tab.cons k7 (Tab.cons k8 (Tab.cons k9 (Tab.cons k10 (Tab.cons k13 (Tab.cons k11 (Tab.cons k12 Tab.nil)))))) : Tab dr _) _ (lk_mem' h)) (S := sg3) (fn := Try.f3) (c := bodyOf Try.f3) (ts := [6]) Try.func3 (by kernel_rfl) (by kernel_rfl) (by kernel_rfl) (by kernel_rfl) (by kernel_rfl) (by kernel_rfl) (by kernel_rfl) r3

theorem k3 {dr : Bool} : ContractD dr Try.prog 3 sem3 := c3

theorem c18 {dr : Bool} : ContractD dr Try.prog 18 sm18 :=
 contract_ofM (C := cf18) (fun f sem h => (Tab.nil : Tab dr _) _ (lk_mem' h)) (S := sg18) (fn := Try.f18) (c := bodyOf Try.f18) (ts := [4]) Try.func18 (by kernel_rfl) (by kernel_rfl) (by kernel_rfl) (by kernel_rfl) (by kernel_rfl) (by kernel_rfl) (by kernel_rfl) r18

theorem k18 {dr : Bool} : ContractD dr Try.prog 18 sem18 := c18

theorem c26 {dr : Bool} : ContractD dr Try.prog 26 sm26 :=
 contract_ofM (C := cf26) (fun f sem h => (Tab.cons k7 (Tab.cons k18 Tab.nil) : Tab dr _) _ (lk_mem' h)) (S := sg26) (fn := Try.f26) (c := bodyOf Try.f26) (ts := [8, 9]) Try.func26 (by kernel_rfl) (by kernel_rfl) (by kernel_rfl) (by kernel_rfl) (by kernel_rfl) (by kernel_rfl) (by kernel_rfl) r26

theorem k26 {dr : Bool} : ContractD dr Try.prog 26 sem26 := c26

theorem c27 {dr : Bool} : ContractD dr Try.prog 27 sm27 :=
 contract_ofM (C := cf27) (fun f sem h => (Tab.cons k7 (Tab.cons k18 Tab.nil) : Tab dr _) _ (lk_mem' h)) (S := sg27) (fn := Try.f27) (c := bodyOf Try.f27) (ts := [6, 7]) Try.func27 (by kernel_rfl) (by kernel_rfl) (by kernel_rfl) (by kernel_rfl) (by kernel_rfl) (by kernel_rfl) (by kernel_rfl) r27

theorem k27 {dr : Bool} : ContractD dr Try.prog 27 sem27 := c27

theorem c28 {dr : Bool} : ContractD dr Try.prog 28 sm28 :=
 contract_ofM (C := cf28) (fun f sem h => (Tab.cons k7 (Tab.cons k18 Tab.nil) : Tab dr _) _ (lk_mem' h)) (S := sg28) (fn := Try.f28) (c := bodyOf Try.f28) (ts := [4, 5]) Try.func28 (by kernel_rfl) (by kernel_rfl) (by kernel_rfl) (by kernel_rfl) (by kernel_rfl) (by kernel_rfl) (by kernel_rfl) r28

theorem k28 {dr : Bool} : ContractD dr Try.prog 28 sem28 := c28

theorem c14 {dr : Bool} : ContractD dr Try.prog 14 sm14 :=
 contract_ofM (C := cf14) (fun f sem h => (Tab.cons k26 (Tab.cons k10 (Tab.cons k27 (Tab.cons k11 (Tab.cons k28 (Tab.cons k12 (Tab.cons k13 (Tab.cons k7 (Tab.cons k18 Tab.nil)))))))) : Tab dr _) _ (lk_mem' h)) (S := sg14) (fn := Try.f14) (c := bodyOf Try.f14) (ts := [8, 9]) Try.func14 (by kernel_rfl) (by kernel_rfl) (by kernel_rfl) (by kernel_rfl) (by kernel_rfl) (by kernel_rfl) (by kernel_rfl) r14

theorem k14 {dr : Bool} : ContractD dr Try.prog 14 sem14 := c14

theorem c15 {dr : Bool} : ContractD dr Try.prog 15 sm15 :=
 contract_ofM (C := cf15) (fun f sem h => (Tab.nil : Tab dr _) _ (lk_mem' h)) (S := sg15) (fn := Try.f15) (c := bodyOf Try.f15) (ts := [2]) Try.func15 (by kernel_rfl) (by kernel_rfl) (by kernel_rfl) (by kernel_rfl) (by kernel_rfl) (by kernel_rfl) (by kernel_rfl) r15

theorem c15a {dr : Bool} : ContractD dr Try.prog 15 sm15a :=
 contract_ofM (C := cf15a) (fun f sem h => (Tab.nil : Tab dr _) _ (lk_mem' h)) (S := sg15a) (fn := Try.f15) (c := bodyOf Try.f15) (ts := [2]) Try.func15 (by kernel_rfl) (by kernel_rfl) (by kernel_rfl) (by kernel_rfl) (by kernel_rfl) (by kernel_rfl) (by kernel_rfl) r15a

theorem k15 {dr : Bool} : ContractD dr Try.prog 15 sem15 := contract_or c15 (c15a)

theorem c16 {dr : Bool} : ContractD dr Try.prog 16 sm16 :=
 contract_ofM (C := cf16) (fun f sem h => (Tab.nil : Tab dr _) _ (lk_mem' h)) (S := sg16) (fn := Try.f16) (c := bodyOf Try.f16) (ts := [2]) Try.func16 (by kernel_rfl) (by kernel_rfl) (by kernel_rfl) (by kernel_rfl) (by kernel_rfl) (by kernel_rfl) (by kernel_rfl) r16

theorem c16a {dr : Bool} : ContractD dr Try.prog 16 sm16a :=
 contract_ofM (C := cf16a) (fun f sem h => (Tab.nil : Tab dr _) _ (lk_mem' h)) (S := sg16a) (fn := Try.f16) (c := bodyOf Try.f16) (ts := [2]) Try.func16 (by kernel_rfl) (by kernel_rfl) (by kernel_rfl) (by kernel_rfl) (by kernel_rfl) (by kernel_rfl) (by kernel_rfl) r16a

theorem k16 {dr : Bool} : ContractD dr Try.prog 16 sem16 := contract_or c16 (c16a)

theorem c4 {dr : Bool} : ContractD dr Try.prog 4 sm4 :=
 contract_ofM (C := cf4) (fun f sem h => (Tab.cons k9 (Tab.cons k8 (Tab.cons k14 (Tab.cons k15 (Tab.cons k16 Tab.nil)))) : Tab dr _) _ (lk_mem' h)) (S := sg4) (fn := Try.f4) (c := bodyOf Try.f4) (ts := [4]) Try.func4 (by kernel_rfl) (by kernel_rfl) (by kernel_rfl) (by kernel_rfl) (by kernel_rfl) (by kernel_rfl) (by kernel_rfl) r4

theorem k4 {dr : Bool} : ContractD dr Try.prog 4 sem4 := c4

theorem c43 {dr : Bool} : ContractD dr Try.prog 43 sm43 :=
 contract_ofM (C := cf43) (fun f sem h => (Tab.nil : Tab dr _) _ (lk_mem' h)) (S := sg43) (fn := Try.f43) (c := bodyOf Try.f43) (ts := [2]) Try.func43 (by kernel_rfl) (by kernel_rfl) (by kernel_rfl) (by kernel_rfl) (by kernel_rfl) (by kernel_rfl) (by kernel_rfl) r43

theorem k43 {dr : Bool} : ContractD dr Try.prog 43 sem43 := c43

theorem c32 {dr : Bool} : ContractD dr Try.prog 32 sm32 :=
 contract_ofM (C := cf32) (fun f sem h => (Tab.cons k43 Tab.nil : Tab dr _) _ (lk_mem' h)) (S := sg32) (fn := Try.f32) (c := bodyOf Try.f32) (ts := [4]) Try.func32 (by kernel_rfl) (by kernel_rfl) (by kernel_rfl) (by kernel_rfl) (by kernel_rfl) (by kernel_rfl) (by kernel_rfl) r32

theorem k32 {dr : Bool} : ContractD dr Try.prog 32 sem32 := c32

theorem c59 {dr : Bool} : ContractD dr Try.prog 59 sm59 := sub64_contract Try.func59 (by kernel_rfl) (by kernel_rfl) (by kernel_rfl) (by kernel_rfl)

theorem k59 {dr : Bool} : ContractD dr Try.prog 59 sem59 := c59

theorem c44 {dr : Bool} : ContractD dr Try.prog 44 sm44 :=
 contract_ofAM (C := cf44) (fun f sem h => (Tab.cons k59 Tab.nil : Tab dr _) _ (lk_mem' h)) (args := ag44) (alts := al44) (fn := Try.f44) (c := bodyOf Try.f44) (ts := [(4, some 71), (5, none)]) Try.func44 (by kernel_rfl) (by kernel_rfl) (by kernel_rfl) (by kernel_rfl) (by kernel_rfl) (by kernel_rfl) (by kernel_rfl) r44

theorem k44 {dr : Bool} : ContractD dr Try.prog 44 sem44 := c44

theorem c33 {dr : Bool} : ContractD dr Try.prog 33 sm33 :=
 contract_ofM (C := cf33) (fun f sem h => (Tab.cons k44 Tab.nil : Tab dr _) _ (lk_mem' h)) (S := sg33) (fn := Try.f33) (c := bodyOf Try.f33) (ts := [4]) Try.func33 (by kernel_rfl) (by kernel_rfl) (by kernel_rfl) (by kernel_rfl) (by kernel_rfl) (by kernel_rfl) (by kernel_rfl) r33

theorem k33 {dr : Bool} : ContractD dr Try.prog 33 sem33 := c33

theorem c31 {dr : Bool} : ContractD dr Try.prog 31 sm31 :=
 contract_ofM (C := cf31) (fun f sem h => (Tab.nil : Tab dr _) _ (lk_mem' h)) (S := sg31) (fn := Try.f31) (c := bodyOf Try.f31) (ts := [2]) Try.func31 (by kernel_rfl) (by kernel_rfl) (by kernel_rfl) (by kernel_rfl) (by kernel_rfl) (by kernel_rfl) (by kernel_rfl) r31

theorem k31 {dr : Bool} : ContractD dr Try.prog 31 sem31 := c31

theorem c30 {dr : Bool} : ContractD dr Try.prog 30 sm30 :=
 contract_ofM (C := cf30) (fun f sem h => (Tab.cons k32 (Tab.cons k34 (Tab.cons k33 (Tab.cons k31 Tab.nil))) : Tab dr _) _ (lk_mem' h)) (S := sg30) (fn := Try.f30) (c := bodyOf Try.f30) (ts := [4]) Try.func30 (by kernel_rfl) (by kernel_rfl) (by kernel_rfl) (by kernel_rfl) (by kernel_rfl) (by kernel_rfl) (by kernel_rfl) r30

theorem k30 {dr : Bool} : ContractD dr Try.prog 30 sem30 := c30

theorem c29 {dr : Bool} : ContractD dr Try.prog 29 sm29 := sort_contract laysSort (by kernel_rfl) Try.func29 (by kernel_rfl) (by kernel_rfl) Try.func30 (by kernel_rfl) (by kernel_rfl) (e := (.agg (.pair (.agg (.pair (.int .i64) (.pair (.int .u64) (.pair (.int .u64) .unit)))) (.pair (.int .i64) .unit)))) rfl rfl Try.isAgg47 Try.sizeOf47 (F := (fun x => exact_Map_List_1 x.1 x.2.1)) c30

theorem k29 {dr : Bool} : ContractD dr Try.prog 29 sem29 := c29

theorem c17 {dr : Bool} : ContractD dr Try.prog 17 sm17 :=
 contract_ofM (C := cf17) (fun f sem h => (Tab.cons k29 (Tab.cons k30 Tab.nil) : Tab dr _) _ (lk_mem' h)) (S := sg17) (fn := Try.f17) (c := bodyOf Try.f17) (ts := [2]) Try.func17 (by kernel_rfl) (by kernel_rfl) (by kernel_rfl) (by kernel_rfl) (by kernel_rfl) (by kernel_rfl) (by kernel_rfl) r17

theorem c17a {dr : Bool} : ContractD dr Try.prog 17 sm17a :=
 contract_ofM (C := cf17a) (fun f sem h => (Tab.nil : Tab dr _) _ (lk_mem' h)) (S := sg17a) (fn := Try.f17) (c := bodyOf Try.f17) (ts := [2]) Try.func17 (by kernel_rfl) (by kernel_rfl) (by kernel_rfl) (by kernel_rfl) (by kernel_rfl) (by kernel_rfl) (by kernel_rfl) r17a

theorem k17 {dr : Bool} : ContractD dr Try.prog 17 sem17 := contract_or c17 (c17a)

theorem c45 {dr : Bool} : ContractD dr Try.prog 45 sm45 :=
 contract_ofM (C := cf45) (fun f sem h => (Tab.cons k22 Tab.nil : Tab dr _) _ (lk_mem' h)) (S := sg45) (fn := Try.f45) (c := bodyOf Try.f45) (ts := [2]) Try.func45 (by kernel_rfl) (by kernel_rfl) (by kernel_rfl) (by kernel_rfl) (by kernel_rfl) (by kernel_rfl) (by kernel_rfl) r45

theorem k45 {dr : Bool} : ContractD dr Try.prog 45 sem45 := c45

theorem c60 {dr : Bool} : ContractD dr Try.prog 60 sm60 :=
 contract_ofM (C := cf60) (fun f sem h => (Tab.nil : Tab dr _) _ (lk_mem' h)) (S := sg60) (fn := Try.f60) (c := bodyOf Try.f60) (ts := [2, 3]) Try.func60 (by kernel_rfl) (by kernel_rfl) (by kernel_rfl) (by kernel_rfl) (by kernel_rfl) (by kernel_rfl) (by kernel_rfl) r60

theorem k60 {dr : Bool} : ContractD dr Try.prog 60 sem60 := c60

theorem c46 {dr : Bool} : ContractD dr Try.prog 46 sm46 :=
 contract_ofAM (C := cf46) (fun f sem h => (Tab.cons k60 Tab.nil : Tab dr _) _ (lk_mem' h)) (args := ag46) (alts := al46) (fn := Try.f46) (c := bodyOf Try.f46) (ts := [(2, some 25)]) Try.func46 (by kernel_rfl) (by kernel_rfl) (by kernel_rfl) (by kernel_rfl) (by kernel_rfl) (by kernel_rfl) (by kernel_rfl) r46

theorem k46 {dr : Bool} : ContractD dr Try.prog 46 sem46 := c46

theorem c35 {dr : Bool} : ContractD dr Try.prog 35 sm35 :=
 contract_ofAM (C := cf35) (fun f sem h => (Tab.cons k7 (Tab.cons k45 (Tab.cons k46 Tab.nil)) : Tab dr _) _ (lk_mem' h)) (args := ag35) (alts := al35) (fn := Try.f35) (c := bodyOf Try.f35) (ts := [(6, some 25), (7, none)]) Try.func35 (by kernel_rfl) (by kernel_rfl) (by kernel_rfl) (by kernel_rfl) (by kernel_rfl) (by kernel_rfl) (by kernel_rfl) r35

theorem k35 {dr : Bool} : ContractD dr Try.prog 35 sem35 := c35

theorem c19 {dr : Bool} : ContractD dr Try.prog 19 sm19 :=
 contract_ofM (C := cf19) (fun f sem h => (Tab.cons k35 Tab.nil : Tab dr _) _ (lk_mem' h)) (S := sg19) (fn := Try.f19) (c := bodyOf Try.f19) (ts := [4]) Try.func19 (by kernel_rfl) (by kernel_rfl) (by kernel_rfl) (by kernel_rfl) (by kernel_rfl) (by kernel_rfl) (by kernel_rfl) r19

theorem k19 {dr : Bool} : ContractD dr Try.prog 19 sem19 := c19

theorem c5 {dr : Bool} : ContractD dr Try.prog 5 sm5 :=
 contract_ofM (C := cf5) (fun f sem h => (Tab.cons k9 (Tab.cons k8 (Tab.cons k14 (Tab.cons k17 (Tab.cons k18 (Tab.cons k19 Tab.nil))))) : Tab dr _) _ (lk_mem' h)) (S := sg5) (fn := Try.f5) (c := bodyOf Try.f5) (ts := [4]) Try.func5 (by kernel_rfl) (by kernel_rfl) (by kernel_rfl) (by kernel_rfl) (by kernel_rfl) (by kernel_rfl) (by kernel_rfl) r5

theorem k5 {dr : Bool} : ContractD dr Try.prog 5 sem5 := c5

theorem c36 {dr : Bool} : ContractD dr Try.prog 36 sm36 :=
 contract_ofM (C := cf36) (fun f sem h => (Tab.nil : Tab dr _) _ (lk_mem' h)) (S := sg36) (fn := Try.f36) (c := bodyOf Try.f36) (ts := [2]) Try.func36 (by kernel_rfl) (by kernel_rfl) (by kernel_rfl) (by kernel_rfl) (by kernel_rfl) (by kernel_rfl) (by kernel_rfl) r36

theorem k36 {dr : Bool} : ContractD dr Try.prog 36 sem36 := c36

theorem c20 {dr : Bool} : ContractD dr Try.prog 20 sm20 :=
 contract_ofM (C := cf20) (fun f sem h => (Tab.nil : Tab dr _) _ (lk_mem' h)) (S := sg20) (fn := Try.f20) (c := bodyOf Try.f20) (ts := [2]) Try.func20 (by kernel_rfl) (by kernel_rfl) (by kernel_rfl) (by kernel_rfl) (by kernel_rfl) (by kernel_rfl) (by kernel_rfl) r20

theorem c20a {dr : Bool} : ContractD dr Try.prog 20 sm20a :=
 contract_ofM (C := cf20a) (fun f sem h => (Tab.cons k36 Tab.nil : Tab dr _) _ (lk_mem' h)) (S := sg20a) (fn := Try.f20) (c := bodyOf Try.f20) (ts := [2]) Try.func20 (by kernel_rfl) (by kernel_rfl) (by kernel_rfl) (by kernel_rfl) (by kernel_rfl) (by kernel_rfl) (by kernel_rfl) r20a

theorem k20 {dr : Bool} : ContractD dr Try.prog 20 sem20 := contract_or c20 (c20a)

theorem c6 {dr : Bool} : ContractD dr Try.prog 6 sm6 :=
 contract_ofM (C := cf6) (fun f sem h => (Tab.cons k13 (Tab.cons k10 (Tab.cons k11 (Tab.cons k12 (Tab.cons k15 (Tab.cons k16 (Tab.cons k17 (Tab.cons k20 (Tab.cons k8 (Tab.cons k9 (Tab.cons k14 (Tab.cons k18 Tab.nil))))))))))) : Tab dr _) _ (lk_mem' h)) (S := sg6) (fn := Try.f6) (c := bodyOf Try.f6) (ts := [4]) Try.func6 (by kernel_rfl) (by kernel_rfl) (by kernel_rfl) (by kernel_rfl) (by kernel_rfl) (by kernel_rfl) (by kernel_rfl) r6

theorem k6 {dr : Bool} : ContractD dr Try.prog 6 sem6 := c6

end Go.Proofs.Ytnaclmcmicckeaa
