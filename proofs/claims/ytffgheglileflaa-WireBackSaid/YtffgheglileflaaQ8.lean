/- The functions of this seat, and the laws as plain Lean. -/
import Derived.Test.YtffgheglileflaaQ7

set_option linter.unusedSimpArgs false
set_option linter.unusedVariables false

namespace Go.Proofs.Ytffgheglileflaa
open Go Go.Pv Go.Proofs Go.L
set_option maxRecDepth 100000

theorem c7 : Contract Try.prog 7 sm7 :=
  contract_ofM (C := cf7) (fun f sem h => (Tab.nil : Tab _) _ (lk_mem' h)) (S := sg7) (fn := Try.f7) (c := bodyOf Try.f7) (ts := [2]) Try.func7 (by kernel_rfl) (by kernel_rfl) (by kernel_rfl) (by kernel_rfl) (by kernel_rfl) (by kernel_rfl) (by kernel_rfl) r7

theorem k7 : Contract Try.prog 7 sem7 := c7

theorem c70 : Contract Try.prog 70 sm70 :=
  contract_ofM (C := cf70) (fun f sem h => (Tab.nil : Tab _) _ (lk_mem' h)) (S := sg70) (fn := Try.f70) (c := bodyOf Try.f70) (ts := [2]) Try.func70 (by kernel_rfl) (by kernel_rfl) (by kernel_rfl) (by kernel_rfl) (by kernel_rfl) (by kernel_rfl) (by kernel_rfl) r70

theorem k70 : Contract Try.prog 70 sem70 := c70

theorem c65 : Contract Try.prog 65 sm65 :=
  contract_ofAM (C := cf65) (fun f sem h => (Tab.nil : Tab _) _ (lk_mem' h)) (args := ag65) (alts := al65) (fn := Try.f65) (c := bodyOf Try.f65) (ts := [(2, some 91)]) Try.func65 (by kernel_rfl) (by kernel_rfl) (by kernel_rfl) (by kernel_rfl) (by kernel_rfl) (by kernel_rfl) (by kernel_rfl) r65

theorem k65 : Contract Try.prog 65 sem65 := c65

theorem c90 : Contract Try.prog 90 sm90 :=
  contract_ofM (C := cf90) (fun f sem h => (Tab.nil : Tab _) _ (lk_mem' h)) (S := sg90) (fn := Try.f90) (c := bodyOf Try.f90) (ts := [2]) Try.func90 (by kernel_rfl) (by kernel_rfl) (by kernel_rfl) (by kernel_rfl) (by kernel_rfl) (by kernel_rfl) (by kernel_rfl) r90

theorem k90 : Contract Try.prog 90 sem90 := c90

theorem c80 : Contract Try.prog 80 sm80 :=
  contract_ofM (C := cf80) (fun f sem h => (Tab.cons k90 Tab.nil : Tab _) _ (lk_mem' h)) (S := sg80) (fn := Try.f80) (c := bodyOf Try.f80) (ts := [2]) Try.func80 (by kernel_rfl) (by kernel_rfl) (by kernel_rfl) (by kernel_rfl) (by kernel_rfl) (by kernel_rfl) (by kernel_rfl) r80

theorem k80 : Contract Try.prog 80 sem80 := c80

theorem c62 : Contract Try.prog 62 sm62 :=
  contract_ofM (C := cf62) (fun f sem h => (Tab.cons k70 (Tab.cons k65 (Tab.cons k80 Tab.nil)) : Tab _) _ (lk_mem' h)) (S := sg62) (fn := Try.f62) (c := bodyOf Try.f62) (ts := [2]) Try.func62 (by kernel_rfl) (by kernel_rfl) (by kernel_rfl) (by kernel_rfl) (by kernel_rfl) (by kernel_rfl) (by kernel_rfl) r62

theorem k62 : Contract Try.prog 62 sem62 := c62

theorem c45 : Contract Try.prog 45 sm45 :=
  contract_ofM (C := cf45) (fun f sem h => (Tab.nil : Tab _) _ (lk_mem' h)) (S := sg45) (fn := Try.f45) (c := bodyOf Try.f45) (ts := [2]) Try.func45 (by kernel_rfl) (by kernel_rfl) (by kernel_rfl) (by kernel_rfl) (by kernel_rfl) (by kernel_rfl) (by kernel_rfl) r45

theorem k45 : Contract Try.prog 45 sem45 := c45

theorem c81 : Contract Try.prog 81 sm81 :=
  contract_ofM (C := cf81) (fun f sem h => (Tab.nil : Tab _) _ (lk_mem' h)) (S := sg81) (fn := Try.f81) (c := bodyOf Try.f81) (ts := [2]) Try.func81 (by kernel_rfl) (by kernel_rfl) (by kernel_rfl) (by kernel_rfl) (by kernel_rfl) (by kernel_rfl) (by kernel_rfl) r81

theorem k81 : Contract Try.prog 81 sem81 := c81

theorem c63 : Contract Try.prog 63 sm63 :=
  contract_ofM (C := cf63) (fun f sem h => (Tab.cons k45 (Tab.cons k81 Tab.nil) : Tab _) _ (lk_mem' h)) (S := sg63) (fn := Try.f63) (c := bodyOf Try.f63) (ts := [6]) Try.func63 (by kernel_rfl) (by kernel_rfl) (by kernel_rfl) (by kernel_rfl) (by kernel_rfl) (by kernel_rfl) (by kernel_rfl) r63

theorem k63 : Contract Try.prog 63 sem63 := c63

theorem c49 : Contract Try.prog 49 sm49 :=
  contract_ofM (C := cf49) (fun f sem h => (Tab.nil : Tab _) _ (lk_mem' h)) (S := sg49) (fn := Try.f49) (c := bodyOf Try.f49) (ts := [2]) Try.func49 (by kernel_rfl) (by kernel_rfl) (by kernel_rfl) (by kernel_rfl) (by kernel_rfl) (by kernel_rfl) (by kernel_rfl) r49

theorem k49 : Contract Try.prog 49 sem49 := c49

theorem c51S (word_Shl : (Int × Int × Unit) → Int → Option (((Int × Int × Unit) × Unit) × (Unit))) (word_Shr : (Int × Int × Unit) → Int → Option (((Int × Int × Unit) × Unit) × (Unit))) (h51 : Contract Try.prog 51 (sm51 word_Shl)) (h64 : Contract Try.prog 64 (sm64 word_Shr)) : Contract Try.prog 51 (sm51 (word_Shl_g word_Shl word_Shr)) :=
  contract_ofAM (C := cf51 word_Shl word_Shr) (fun f sem h => (Tab.cons h64 Tab.nil : Tab _) _ (lk_mem' h)) (args := ag51) (alts := al51) (fn := Try.f51) (c := bodyOf Try.f51) (ts := [(4, some 91)]) Try.func51 (by kernel_rfl) (by kernel_rfl) (by kernel_rfl) (by kernel_rfl) (by kernel_rfl) (by kernel_rfl) (by kernel_rfl) (r51 word_Shl word_Shr)
theorem c64S (word_Shl : (Int × Int × Unit) → Int → Option (((Int × Int × Unit) × Unit) × (Unit))) (word_Shr : (Int × Int × Unit) → Int → Option (((Int × Int × Unit) × Unit) × (Unit))) (h51 : Contract Try.prog 51 (sm51 word_Shl)) (h64 : Contract Try.prog 64 (sm64 word_Shr)) : Contract Try.prog 64 (sm64 (word_Shr_g word_Shl word_Shr)) :=
  contract_ofAM (C := cf64 word_Shl word_Shr) (fun f sem h => (Tab.cons h51 Tab.nil : Tab _) _ (lk_mem' h)) (args := ag64) (alts := al64) (fn := Try.f64) (c := bodyOf Try.f64) (ts := [(4, some 91)]) Try.func64 (by kernel_rfl) (by kernel_rfl) (by kernel_rfl) (by kernel_rfl) (by kernel_rfl) (by kernel_rfl) (by kernel_rfl) (r64 word_Shl word_Shr)
theorem lc64 : ∀ k, Contract Try.prog 51 (sm51 ((word_Shr_lv k).1)) ∧ Contract Try.prog 64 (sm64 ((word_Shr_lv k).2))
  | 0 => ⟨(by intro avs s hs r hr w B os ow vs _ _; obtain ⟨x, hx, rfl⟩ := Option.map_eq_some_iff.1 hs; cases hr), (by intro avs s hs r hr w B os ow vs _ _; obtain ⟨x, hx, rfl⟩ := Option.map_eq_some_iff.1 hs; cases hr)⟩
  | k + 1 => by
    have ih := lc64 k
    exact ⟨c51S _ _ ih.1 ih.2, c64S _ _ ih.1 ih.2⟩
theorem c51 : Contract Try.prog 51 (sm51 word_Shl) := (lc64 3).1
theorem c64 : Contract Try.prog 64 (sm64 word_Shr) := (lc64 3).2

theorem k51 : Contract Try.prog 51 sem51 := c51

theorem k64 : Contract Try.prog 64 sem64 := c64

theorem c31 : Contract Try.prog 31 sm31 :=
  contract_ofM (C := cf31) (fun f sem h => (Tab.cons k62 (Tab.cons k63 (Tab.cons k49 (Tab.cons k65 (Tab.cons k64 Tab.nil)))) : Tab _) _ (lk_mem' h)) (S := sg31) (fn := Try.f31) (c := bodyOf Try.f31) (ts := [4]) Try.func31 (by kernel_rfl) (by kernel_rfl) (by kernel_rfl) (by kernel_rfl) (by kernel_rfl) (by kernel_rfl) (by kernel_rfl) r31

theorem k31 : Contract Try.prog 31 sem31 := c31

theorem c8 : Contract Try.prog 8 sm8 :=
  contract_ofM (C := cf8) (fun f sem h => (Tab.cons k31 Tab.nil : Tab _) _ (lk_mem' h)) (S := sg8) (fn := Try.f8) (c := bodyOf Try.f8) (ts := [0]) Try.func8 (by kernel_rfl) (by kernel_rfl) (by kernel_rfl) (by kernel_rfl) (by kernel_rfl) (by kernel_rfl) (by kernel_rfl) r8

theorem k8 : Contract Try.prog 8 sem8 := c8

theorem c32 : Contract Try.prog 32 sm32 :=
  contract_ofM (C := cf32) (fun f sem h => (Tab.cons k63 Tab.nil : Tab _) _ (lk_mem' h)) (S := sg32) (fn := Try.f32) (c := bodyOf Try.f32) (ts := [4]) Try.func32 (by kernel_rfl) (by kernel_rfl) (by kernel_rfl) (by kernel_rfl) (by kernel_rfl) (by kernel_rfl) (by kernel_rfl) r32

theorem k32 : Contract Try.prog 32 sem32 := c32

theorem c42 : Contract Try.prog 42 sm42 :=
  contract_ofAM (C := cf42) (fun f sem h => (Tab.nil : Tab _) _ (lk_mem' h)) (args := ag42) (alts := al42) (fn := Try.f42) (c := bodyOf Try.f42) (ts := [(4, some 77)]) Try.func42 (by kernel_rfl) (by kernel_rfl) (by kernel_rfl) (by kernel_rfl) (by kernel_rfl) (by kernel_rfl) (by kernel_rfl) r42

theorem k42 : Contract Try.prog 42 sem42 := c42

theorem c66 : Contract Try.prog 66 sm66 :=
  contract_ofM (C := cf66) (fun f sem h => (Tab.cons k42 Tab.nil : Tab _) _ (lk_mem' h)) (S := sg66) (fn := Try.f66) (c := bodyOf Try.f66) (ts := [2]) Try.func66 (by kernel_rfl) (by kernel_rfl) (by kernel_rfl) (by kernel_rfl) (by kernel_rfl) (by kernel_rfl) (by kernel_rfl) r66

theorem k66 : Contract Try.prog 66 sem66 := c66

theorem c67 : Contract Try.prog 67 sm67 :=
  contract_ofM (C := cf67) (fun f sem h => (Tab.nil : Tab _) _ (lk_mem' h)) (S := sg67) (fn := Try.f67) (c := bodyOf Try.f67) (ts := [2]) Try.func67 (by kernel_rfl) (by kernel_rfl) (by kernel_rfl) (by kernel_rfl) (by kernel_rfl) (by kernel_rfl) (by kernel_rfl) r67

theorem k67 : Contract Try.prog 67 sem67 := c67

theorem c33 : Contract Try.prog 33 sm33 :=
  contract_ofM (C := cf33) (fun f sem h => (Tab.cons k66 (Tab.cons k67 Tab.nil) : Tab _) _ (lk_mem' h)) (S := sg33) (fn := Try.f33) (c := bodyOf Try.f33) (ts := [4]) Try.func33 (by kernel_rfl) (by kernel_rfl) (by kernel_rfl) (by kernel_rfl) (by kernel_rfl) (by kernel_rfl) (by kernel_rfl) r33

theorem k33 : Contract Try.prog 33 sem33 := c33

theorem c34 : Contract Try.prog 34 sm34 :=
  contract_ofM (C := cf34) (fun f sem h => (Tab.cons k63 Tab.nil : Tab _) _ (lk_mem' h)) (S := sg34) (fn := Try.f34) (c := bodyOf Try.f34) (ts := [4]) Try.func34 (by kernel_rfl) (by kernel_rfl) (by kernel_rfl) (by kernel_rfl) (by kernel_rfl) (by kernel_rfl) (by kernel_rfl) r34

theorem k34 : Contract Try.prog 34 sem34 := c34

theorem c35 : Contract Try.prog 35 sm35 :=
  contract_ofM (C := cf35) (fun f sem h => (Tab.cons k63 Tab.nil : Tab _) _ (lk_mem' h)) (S := sg35) (fn := Try.f35) (c := bodyOf Try.f35) (ts := [4]) Try.func35 (by kernel_rfl) (by kernel_rfl) (by kernel_rfl) (by kernel_rfl) (by kernel_rfl) (by kernel_rfl) (by kernel_rfl) r35

theorem k35 : Contract Try.prog 35 sem35 := c35

theorem c41 : Contract Try.prog 41 sm41 :=
  contract_ofM (C := cf41) (fun f sem h => (Tab.nil : Tab _) _ (lk_mem' h)) (S := sg41) (fn := Try.f41) (c := bodyOf Try.f41) (ts := [2]) Try.func41 (by kernel_rfl) (by kernel_rfl) (by kernel_rfl) (by kernel_rfl) (by kernel_rfl) (by kernel_rfl) (by kernel_rfl) r41

theorem k41 : Contract Try.prog 41 sem41 := c41

theorem c10 : Contract Try.prog 10 sm10 :=
  contract_ofM (C := cf10) (fun f sem h => (Tab.cons k42 (Tab.cons k41 Tab.nil) : Tab _) _ (lk_mem' h)) (S := sg10) (fn := Try.f10) (c := bodyOf Try.f10) (ts := [2]) Try.func10 (by kernel_rfl) (by kernel_rfl) (by kernel_rfl) (by kernel_rfl) (by kernel_rfl) (by kernel_rfl) (by kernel_rfl) r10

theorem k10 : Contract Try.prog 10 sem10 := c10

theorem c68 : Contract Try.prog 68 sm68 :=
  contract_ofM (C := cf68) (fun f sem h => (Tab.cons k66 Tab.nil : Tab _) _ (lk_mem' h)) (S := sg68) (fn := Try.f68) (c := bodyOf Try.f68) (ts := [2]) Try.func68 (by kernel_rfl) (by kernel_rfl) (by kernel_rfl) (by kernel_rfl) (by kernel_rfl) (by kernel_rfl) (by kernel_rfl) r68

theorem k68 : Contract Try.prog 68 sem68 := c68

theorem c36 : Contract Try.prog 36 sm36 :=
  contract_ofM (C := cf36) (fun f sem h => (Tab.cons k10 (Tab.cons k68 (Tab.cons k67 Tab.nil)) : Tab _) _ (lk_mem' h)) (S := sg36) (fn := Try.f36) (c := bodyOf Try.f36) (ts := [2]) Try.func36 (by kernel_rfl) (by kernel_rfl) (by kernel_rfl) (by kernel_rfl) (by kernel_rfl) (by kernel_rfl) (by kernel_rfl) r36

theorem k36 : Contract Try.prog 36 sem36 := c36

theorem c37 : Contract Try.prog 37 sm37 :=
  contract_ofM (C := cf37) (fun f sem h => (Tab.cons k63 Tab.nil : Tab _) _ (lk_mem' h)) (S := sg37) (fn := Try.f37) (c := bodyOf Try.f37) (ts := [4]) Try.func37 (by kernel_rfl) (by kernel_rfl) (by kernel_rfl) (by kernel_rfl) (by kernel_rfl) (by kernel_rfl) (by kernel_rfl) r37

theorem k37 : Contract Try.prog 37 sem37 := c37

theorem c38 : Contract Try.prog 38 sm38 :=
  contract_ofM (C := cf38) (fun f sem h => (Tab.nil : Tab _) _ (lk_mem' h)) (S := sg38) (fn := Try.f38) (c := bodyOf Try.f38) (ts := [2]) Try.func38 (by kernel_rfl) (by kernel_rfl) (by kernel_rfl) (by kernel_rfl) (by kernel_rfl) (by kernel_rfl) (by kernel_rfl) r38

theorem k38 : Contract Try.prog 38 sem38 := c38

theorem c39 : Contract Try.prog 39 sm39 :=
  contract_ofM (C := cf39) (fun f sem h => (Tab.cons k63 (Tab.cons k31 Tab.nil) : Tab _) _ (lk_mem' h)) (S := sg39) (fn := Try.f39) (c := bodyOf Try.f39) (ts := [4]) Try.func39 (by kernel_rfl) (by kernel_rfl) (by kernel_rfl) (by kernel_rfl) (by kernel_rfl) (by kernel_rfl) (by kernel_rfl) r39

theorem k39 : Contract Try.prog 39 sem39 := c39

theorem c40 : Contract Try.prog 40 sm40 :=
  contract_ofM (C := cf40) (fun f sem h => (Tab.cons k63 Tab.nil : Tab _) _ (lk_mem' h)) (S := sg40) (fn := Try.f40) (c := bodyOf Try.f40) (ts := [4]) Try.func40 (by kernel_rfl) (by kernel_rfl) (by kernel_rfl) (by kernel_rfl) (by kernel_rfl) (by kernel_rfl) (by kernel_rfl) r40

theorem k40 : Contract Try.prog 40 sem40 := c40

theorem c9 : Contract Try.prog 9 sm9 :=
  contract_ofM (C := cf9) (fun f sem h => (Tab.cons k32 (Tab.cons k33 (Tab.cons k34 (Tab.cons k35 (Tab.cons k31 (Tab.cons k36 (Tab.cons k37 (Tab.cons k38 (Tab.cons k39 (Tab.cons k40 Tab.nil))))))))) : Tab _) _ (lk_mem' h)) (S := sg9) (fn := Try.f9) (c := bodyOf Try.f9) (ts := [4, 5]) Try.func9 (by kernel_rfl) (by kernel_rfl) (by kernel_rfl) (by kernel_rfl) (by kernel_rfl) (by kernel_rfl) (by kernel_rfl) r9

theorem k9 : Contract Try.prog 9 sem9 := c9

theorem c3 : Contract Try.prog 3 sm3 :=
  contract_ofM (C := cf3) (fun f sem h => (Tab.cons k7 (Tab.cons k8 (Tab.cons k9 Tab.nil)) : Tab _) _ (lk_mem' h)) (S := sg3) (fn := Try.f3) (c := bodyOf Try.f3) (ts := [2]) Try.func3 (by kernel_rfl) (by kernel_rfl) (by kernel_rfl) (by kernel_rfl) (by kernel_rfl) (by kernel_rfl) (by kernel_rfl) r3

theorem k3 : Contract Try.prog 3 sem3 := c3

theorem c58 : Contract Try.prog 58 sm58 :=
  contract_ofM (C := cf58) (fun f sem h => (Tab.nil : Tab _) _ (lk_mem' h)) (S := sg58) (fn := Try.f58) (c := bodyOf Try.f58) (ts := []) Try.func58 (by kernel_rfl) (by kernel_rfl) (by kernel_rfl) (by kernel_rfl) (by kernel_rfl) (by kernel_rfl) (by kernel_rfl) r58

theorem c58a : Contract Try.prog 58 sm58a :=
  contract_ofM (C := cf58a) (fun f sem h => (Tab.nil : Tab _) _ (lk_mem' h)) (S := sg58a) (fn := Try.f58) (c := bodyOf Try.f58) (ts := []) Try.func58 (by kernel_rfl) (by kernel_rfl) (by kernel_rfl) (by kernel_rfl) (by kernel_rfl) (by kernel_rfl) (by kernel_rfl) r58a

theorem k58 : Contract Try.prog 58 sem58 := contract_or c58 (c58a)

theorem c25 : Contract Try.prog 25 sm25 :=
  contract_ofM (C := cf25) (fun f sem h => (Tab.nil : Tab _) _ (lk_mem' h)) (S := sg25) (fn := Try.f25) (c := bodyOf Try.f25) (ts := []) Try.func25 (by kernel_rfl) (by kernel_rfl) (by kernel_rfl) (by kernel_rfl) (by kernel_rfl) (by kernel_rfl) (by kernel_rfl) r25

theorem c25a : Contract Try.prog 25 sm25a :=
  contract_ofM (C := cf25a) (fun f sem h => (Tab.cons k58 Tab.nil : Tab _) _ (lk_mem' h)) (S := sg25a) (fn := Try.f25) (c := bodyOf Try.f25) (ts := []) Try.func25 (by kernel_rfl) (by kernel_rfl) (by kernel_rfl) (by kernel_rfl) (by kernel_rfl) (by kernel_rfl) (by kernel_rfl) r25a

theorem k25 : Contract Try.prog 25 sem25 := contract_or c25 (c25a)

theorem c23 : Contract Try.prog 23 sm23 :=
  contract_ofM (C := cf23) (fun f sem h => (Tab.nil : Tab _) _ (lk_mem' h)) (S := sg23) (fn := Try.f23) (c := bodyOf Try.f23) (ts := [2]) Try.func23 (by kernel_rfl) (by kernel_rfl) (by kernel_rfl) (by kernel_rfl) (by kernel_rfl) (by kernel_rfl) (by kernel_rfl) r23

theorem c23a : Contract Try.prog 23 sm23a :=
  contract_ofM (C := cf23a) (fun f sem h => (Tab.nil : Tab _) _ (lk_mem' h)) (S := sg23a) (fn := Try.f23) (c := bodyOf Try.f23) (ts := [2]) Try.func23 (by kernel_rfl) (by kernel_rfl) (by kernel_rfl) (by kernel_rfl) (by kernel_rfl) (by kernel_rfl) (by kernel_rfl) r23a

theorem k23 : Contract Try.prog 23 sem23 := contract_or c23 (c23a)

theorem c20 : Contract Try.prog 20 sm20 :=
  contract_ofM (C := cf20) (fun f sem h => (Tab.nil : Tab _) _ (lk_mem' h)) (S := sg20) (fn := Try.f20) (c := bodyOf Try.f20) (ts := [2]) Try.func20 (by kernel_rfl) (by kernel_rfl) (by kernel_rfl) (by kernel_rfl) (by kernel_rfl) (by kernel_rfl) (by kernel_rfl) r20

theorem c20a : Contract Try.prog 20 sm20a :=
  contract_ofM (C := cf20a) (fun f sem h => (Tab.nil : Tab _) _ (lk_mem' h)) (S := sg20a) (fn := Try.f20) (c := bodyOf Try.f20) (ts := [2]) Try.func20 (by kernel_rfl) (by kernel_rfl) (by kernel_rfl) (by kernel_rfl) (by kernel_rfl) (by kernel_rfl) (by kernel_rfl) r20a

theorem k20 : Contract Try.prog 20 sem20 := contract_or c20 (c20a)

theorem c19 : Contract Try.prog 19 sm19 :=
  contract_ofM (C := cf19) (fun f sem h => (Tab.nil : Tab _) _ (lk_mem' h)) (S := sg19) (fn := Try.f19) (c := bodyOf Try.f19) (ts := [2]) Try.func19 (by kernel_rfl) (by kernel_rfl) (by kernel_rfl) (by kernel_rfl) (by kernel_rfl) (by kernel_rfl) (by kernel_rfl) r19

theorem c19a : Contract Try.prog 19 sm19a :=
  contract_ofM (C := cf19a) (fun f sem h => (Tab.cons k20 Tab.nil : Tab _) _ (lk_mem' h)) (S := sg19a) (fn := Try.f19) (c := bodyOf Try.f19) (ts := [2]) Try.func19 (by kernel_rfl) (by kernel_rfl) (by kernel_rfl) (by kernel_rfl) (by kernel_rfl) (by kernel_rfl) (by kernel_rfl) r19a

theorem k19 : Contract Try.prog 19 sem19 := contract_or c19 (c19a)

theorem c18 : Contract Try.prog 18 sm18 :=
  contract_ofM (C := cf18) (fun f sem h => (Tab.nil : Tab _) _ (lk_mem' h)) (S := sg18) (fn := Try.f18) (c := bodyOf Try.f18) (ts := [2, 3]) Try.func18 (by kernel_rfl) (by kernel_rfl) (by kernel_rfl) (by kernel_rfl) (by kernel_rfl) (by kernel_rfl) (by kernel_rfl) r18

theorem k18 : Contract Try.prog 18 sem18 := c18

theorem c48 : Contract Try.prog 48 sm48 :=
  contract_ofM (C := cf48) (fun f sem h => (Tab.nil : Tab _) _ (lk_mem' h)) (S := sg48) (fn := Try.f48) (c := bodyOf Try.f48) (ts := [4, 5]) Try.func48 (by kernel_rfl) (by kernel_rfl) (by kernel_rfl) (by kernel_rfl) (by kernel_rfl) (by kernel_rfl) (by kernel_rfl) r48

theorem c48a : Contract Try.prog 48 sm48a :=
  contract_ofM (C := cf48a) (fun f sem h => (Tab.nil : Tab _) _ (lk_mem' h)) (S := sg48a) (fn := Try.f48) (c := bodyOf Try.f48) (ts := [4, 5]) Try.func48 (by kernel_rfl) (by kernel_rfl) (by kernel_rfl) (by kernel_rfl) (by kernel_rfl) (by kernel_rfl) (by kernel_rfl) r48a

theorem k48 : Contract Try.prog 48 sem48 := contract_or c48 (c48a)

theorem c46 : Contract Try.prog 46 sm46 :=
  contract_ofM (C := cf46) (fun f sem h => (Tab.nil : Tab _) _ (lk_mem' h)) (S := sg46) (fn := Try.f46) (c := bodyOf Try.f46) (ts := [6]) Try.func46 (by kernel_rfl) (by kernel_rfl) (by kernel_rfl) (by kernel_rfl) (by kernel_rfl) (by kernel_rfl) (by kernel_rfl) r46

theorem c46a : Contract Try.prog 46 sm46a :=
  contract_ofM (C := cf46a) (fun f sem h => (Tab.cons k48 (Tab.cons k58 Tab.nil) : Tab _) _ (lk_mem' h)) (S := sg46a) (fn := Try.f46) (c := bodyOf Try.f46) (ts := [6]) Try.func46 (by kernel_rfl) (by kernel_rfl) (by kernel_rfl) (by kernel_rfl) (by kernel_rfl) (by kernel_rfl) (by kernel_rfl) r46a

theorem c46b : Contract Try.prog 46 sm46b :=
  contract_ofM (C := cf46b) (fun f sem h => (Tab.cons k48 (Tab.cons k58 Tab.nil) : Tab _) _ (lk_mem' h)) (S := sg46b) (fn := Try.f46) (c := bodyOf Try.f46) (ts := [6]) Try.func46 (by kernel_rfl) (by kernel_rfl) (by kernel_rfl) (by kernel_rfl) (by kernel_rfl) (by kernel_rfl) (by kernel_rfl) r46b

theorem k46 : Contract Try.prog 46 sem46 := contract_or c46 (contract_or c46a (c46b))

theorem c13 : Contract Try.prog 13 sm13 :=
  contract_ofM (C := cf13) (fun f sem h => (Tab.cons k46 Tab.nil : Tab _) _ (lk_mem' h)) (S := sg13) (fn := Try.f13) (c := bodyOf Try.f13) (ts := [4]) Try.func13 (by kernel_rfl) (by kernel_rfl) (by kernel_rfl) (by kernel_rfl) (by kernel_rfl) (by kernel_rfl) (by kernel_rfl) r13

theorem c13a : Contract Try.prog 13 sm13a :=
  contract_ofM (C := cf13a) (fun f sem h => (Tab.cons k46 Tab.nil : Tab _) _ (lk_mem' h)) (S := sg13a) (fn := Try.f13) (c := bodyOf Try.f13) (ts := [4]) Try.func13 (by kernel_rfl) (by kernel_rfl) (by kernel_rfl) (by kernel_rfl) (by kernel_rfl) (by kernel_rfl) (by kernel_rfl) r13a

theorem c13b : Contract Try.prog 13 sm13b :=
  contract_ofM (C := cf13b) (fun f sem h => (Tab.cons k46 Tab.nil : Tab _) _ (lk_mem' h)) (S := sg13b) (fn := Try.f13) (c := bodyOf Try.f13) (ts := [4]) Try.func13 (by kernel_rfl) (by kernel_rfl) (by kernel_rfl) (by kernel_rfl) (by kernel_rfl) (by kernel_rfl) (by kernel_rfl) r13b

theorem k13 : Contract Try.prog 13 sem13 := contract_or c13 (contract_or c13a (c13b))

theorem c14 : Contract Try.prog 14 sm14 :=
  contract_ofM (C := cf14) (fun f sem h => (Tab.cons k46 Tab.nil : Tab _) _ (lk_mem' h)) (S := sg14) (fn := Try.f14) (c := bodyOf Try.f14) (ts := [4]) Try.func14 (by kernel_rfl) (by kernel_rfl) (by kernel_rfl) (by kernel_rfl) (by kernel_rfl) (by kernel_rfl) (by kernel_rfl) r14

theorem c14a : Contract Try.prog 14 sm14a :=
  contract_ofM (C := cf14a) (fun f sem h => (Tab.cons k46 Tab.nil : Tab _) _ (lk_mem' h)) (S := sg14a) (fn := Try.f14) (c := bodyOf Try.f14) (ts := [4]) Try.func14 (by kernel_rfl) (by kernel_rfl) (by kernel_rfl) (by kernel_rfl) (by kernel_rfl) (by kernel_rfl) (by kernel_rfl) r14a

theorem c14b : Contract Try.prog 14 sm14b :=
  contract_ofM (C := cf14b) (fun f sem h => (Tab.cons k46 Tab.nil : Tab _) _ (lk_mem' h)) (S := sg14b) (fn := Try.f14) (c := bodyOf Try.f14) (ts := [4]) Try.func14 (by kernel_rfl) (by kernel_rfl) (by kernel_rfl) (by kernel_rfl) (by kernel_rfl) (by kernel_rfl) (by kernel_rfl) r14b

theorem k14 : Contract Try.prog 14 sem14 := contract_or c14 (contract_or c14a (c14b))

theorem c15 : Contract Try.prog 15 sm15 :=
  contract_ofM (C := cf15) (fun f sem h => (Tab.cons k46 Tab.nil : Tab _) _ (lk_mem' h)) (S := sg15) (fn := Try.f15) (c := bodyOf Try.f15) (ts := [4]) Try.func15 (by kernel_rfl) (by kernel_rfl) (by kernel_rfl) (by kernel_rfl) (by kernel_rfl) (by kernel_rfl) (by kernel_rfl) r15

theorem c15a : Contract Try.prog 15 sm15a :=
  contract_ofM (C := cf15a) (fun f sem h => (Tab.cons k46 Tab.nil : Tab _) _ (lk_mem' h)) (S := sg15a) (fn := Try.f15) (c := bodyOf Try.f15) (ts := [4]) Try.func15 (by kernel_rfl) (by kernel_rfl) (by kernel_rfl) (by kernel_rfl) (by kernel_rfl) (by kernel_rfl) (by kernel_rfl) r15a

theorem c15b : Contract Try.prog 15 sm15b :=
  contract_ofM (C := cf15b) (fun f sem h => (Tab.cons k46 Tab.nil : Tab _) _ (lk_mem' h)) (S := sg15b) (fn := Try.f15) (c := bodyOf Try.f15) (ts := [4]) Try.func15 (by kernel_rfl) (by kernel_rfl) (by kernel_rfl) (by kernel_rfl) (by kernel_rfl) (by kernel_rfl) (by kernel_rfl) r15b

theorem k15 : Contract Try.prog 15 sem15 := contract_or c15 (contract_or c15a (c15b))

theorem c47 : Contract Try.prog 47 sm47 :=
  contract_ofM (C := cf47) (fun f sem h => (Tab.cons k58 Tab.nil : Tab _) _ (lk_mem' h)) (S := sg47) (fn := Try.f47) (c := bodyOf Try.f47) (ts := []) Try.func47 (by kernel_rfl) (by kernel_rfl) (by kernel_rfl) (by kernel_rfl) (by kernel_rfl) (by kernel_rfl) (by kernel_rfl) r47

theorem k47 : Contract Try.prog 47 sem47 := c47

theorem c50 : Contract Try.prog 50 sm50 :=
  contract_ofAM (C := cf50) (fun f sem h => (Tab.nil : Tab _) _ (lk_mem' h)) (args := ag50) (alts := al50) (fn := Try.f50) (c := bodyOf Try.f50) (ts := [(4, some 91)]) Try.func50 (by kernel_rfl) (by kernel_rfl) (by kernel_rfl) (by kernel_rfl) (by kernel_rfl) (by kernel_rfl) (by kernel_rfl) r50

theorem k50 : Contract Try.prog 50 sem50 := c50

theorem c52 : Contract Try.prog 52 sm52 :=
  contract_ofAM (C := cf52) (fun f sem h => (Tab.cons k70 (Tab.cons k62 Tab.nil) : Tab _) _ (lk_mem' h)) (args := ag52) (alts := al52) (fn := Try.f52) (c := bodyOf Try.f52) (ts := [(6, some 30), (7, none)]) Try.func52 (by kernel_rfl) (by kernel_rfl) (by kernel_rfl) (by kernel_rfl) (by kernel_rfl) (by kernel_rfl) (by kernel_rfl) r52

theorem k52 : Contract Try.prog 52 sem52 := c52

theorem c16 : Contract Try.prog 16 sm16 :=
  contract_ofAM (C := cf16) (fun f sem h => (Tab.nil : Tab _) _ (lk_mem' h)) (args := ag16) (alts := al16) (fn := Try.f16) (c := bodyOf Try.f16) (ts := [(2, some 30)]) Try.func16 (by kernel_rfl) (by kernel_rfl) (by kernel_rfl) (by kernel_rfl) (by kernel_rfl) (by kernel_rfl) (by kernel_rfl) r16

theorem c16a : Contract Try.prog 16 sm16a :=
  contract_ofAM (C := cf16a) (fun f sem h => (Tab.cons k13 (Tab.cons k47 (Tab.cons k49 (Tab.cons k48 (Tab.cons k51 (Tab.cons k50 (Tab.cons k52 Tab.nil)))))) : Tab _) _ (lk_mem' h)) (args := ag16a) (alts := al16a) (fn := Try.f16) (c := bodyOf Try.f16) (ts := [(2, some 30)]) Try.func16 (by kernel_rfl) (by kernel_rfl) (by kernel_rfl) (by kernel_rfl) (by kernel_rfl) (by kernel_rfl) (by kernel_rfl) r16a

theorem c16b : Contract Try.prog 16 sm16b :=
  contract_ofAM (C := cf16b) (fun f sem h => (Tab.cons k13 (Tab.cons k47 (Tab.cons k49 (Tab.cons k48 (Tab.cons k51 (Tab.cons k50 (Tab.cons k52 Tab.nil)))))) : Tab _) _ (lk_mem' h)) (args := ag16b) (alts := al16b) (fn := Try.f16) (c := bodyOf Try.f16) (ts := [(2, some 30)]) Try.func16 (by kernel_rfl) (by kernel_rfl) (by kernel_rfl) (by kernel_rfl) (by kernel_rfl) (by kernel_rfl) (by kernel_rfl) r16b

theorem k16 : Contract Try.prog 16 sem16 := contract_or c16 (contract_or c16a (c16b))

theorem c83 : Contract Try.prog 83 sm83 :=
  contract_ofM (C := cf83) (fun f sem h => (Tab.nil : Tab _) _ (lk_mem' h)) (S := sg83) (fn := Try.f83) (c := bodyOf Try.f83) (ts := [6]) Try.func83 (by kernel_rfl) (by kernel_rfl) (by kernel_rfl) (by kernel_rfl) (by kernel_rfl) (by kernel_rfl) (by kernel_rfl) r83

theorem k83 : Contract Try.prog 83 sem83 := c83

theorem c71 : Contract Try.prog 71 sm71 :=
  contract_ofM (C := cf71) (fun f sem h => (Tab.cons k83 Tab.nil : Tab _) _ (lk_mem' h)) (S := sg71) (fn := Try.f71) (c := bodyOf Try.f71) (ts := [2]) Try.func71 (by kernel_rfl) (by kernel_rfl) (by kernel_rfl) (by kernel_rfl) (by kernel_rfl) (by kernel_rfl) (by kernel_rfl) r71

theorem k71 : Contract Try.prog 71 sem71 := c71

theorem c72 : Contract Try.prog 72 sm72 :=
  contract_ofM (C := cf72) (fun f sem h => (Tab.cons k83 Tab.nil : Tab _) _ (lk_mem' h)) (S := sg72) (fn := Try.f72) (c := bodyOf Try.f72) (ts := [2]) Try.func72 (by kernel_rfl) (by kernel_rfl) (by kernel_rfl) (by kernel_rfl) (by kernel_rfl) (by kernel_rfl) (by kernel_rfl) r72

theorem k72 : Contract Try.prog 72 sem72 := c72

theorem c53 : Contract Try.prog 53 sm53 :=
  contract_ofM (C := cf53) (fun f sem h => (Tab.cons k71 (Tab.cons k72 Tab.nil) : Tab _) _ (lk_mem' h)) (S := sg53) (fn := Try.f53) (c := bodyOf Try.f53) (ts := [2]) Try.func53 (by kernel_rfl) (by kernel_rfl) (by kernel_rfl) (by kernel_rfl) (by kernel_rfl) (by kernel_rfl) (by kernel_rfl) r53

theorem k53 : Contract Try.prog 53 sem53 := c53

theorem c17 : Contract Try.prog 17 sm17 :=
  contract_ofM (C := cf17) (fun f sem h => (Tab.nil : Tab _) _ (lk_mem' h)) (S := sg17) (fn := Try.f17) (c := bodyOf Try.f17) (ts := [2]) Try.func17 (by kernel_rfl) (by kernel_rfl) (by kernel_rfl) (by kernel_rfl) (by kernel_rfl) (by kernel_rfl) (by kernel_rfl) r17

theorem c17a : Contract Try.prog 17 sm17a :=
  contract_ofM (C := cf17a) (fun f sem h => (Tab.cons k13 (Tab.cons k48 (Tab.cons k47 (Tab.cons k53 Tab.nil))) : Tab _) _ (lk_mem' h)) (S := sg17a) (fn := Try.f17) (c := bodyOf Try.f17) (ts := [2]) Try.func17 (by kernel_rfl) (by kernel_rfl) (by kernel_rfl) (by kernel_rfl) (by kernel_rfl) (by kernel_rfl) (by kernel_rfl) r17a

theorem c17b : Contract Try.prog 17 sm17b :=
  contract_ofM (C := cf17b) (fun f sem h => (Tab.cons k13 (Tab.cons k48 (Tab.cons k47 (Tab.cons k53 Tab.nil))) : Tab _) _ (lk_mem' h)) (S := sg17b) (fn := Try.f17) (c := bodyOf Try.f17) (ts := [2]) Try.func17 (by kernel_rfl) (by kernel_rfl) (by kernel_rfl) (by kernel_rfl) (by kernel_rfl) (by kernel_rfl) (by kernel_rfl) r17b

theorem k17 : Contract Try.prog 17 sem17 := contract_or c17 (contract_or c17a (c17b))

theorem c59 : Contract Try.prog 59 sm59 :=
  contract_ofM (C := cf59) (fun f sem h => (Tab.cons k13 (Tab.cons k47 Tab.nil) : Tab _) _ (lk_mem' h)) (S := sg59) (fn := Try.f59) (c := bodyOf Try.f59) (ts := [4]) Try.func59 (by kernel_rfl) (by kernel_rfl) (by kernel_rfl) (by kernel_rfl) (by kernel_rfl) (by kernel_rfl) (by kernel_rfl) r59

theorem c59a : Contract Try.prog 59 sm59a :=
  contract_ofM (C := cf59a) (fun f sem h => (Tab.cons k13 (Tab.cons k47 Tab.nil) : Tab _) _ (lk_mem' h)) (S := sg59a) (fn := Try.f59) (c := bodyOf Try.f59) (ts := [4]) Try.func59 (by kernel_rfl) (by kernel_rfl) (by kernel_rfl) (by kernel_rfl) (by kernel_rfl) (by kernel_rfl) (by kernel_rfl) r59a

theorem k59 : Contract Try.prog 59 sem59 := contract_or c59 (c59a)

theorem c26 : Contract Try.prog 26 sm26 :=
  contract_ofM (C := cf26) (fun f sem h => (Tab.nil : Tab _) _ (lk_mem' h)) (S := sg26) (fn := Try.f26) (c := bodyOf Try.f26) (ts := [4]) Try.func26 (by kernel_rfl) (by kernel_rfl) (by kernel_rfl) (by kernel_rfl) (by kernel_rfl) (by kernel_rfl) (by kernel_rfl) r26

theorem c26a : Contract Try.prog 26 sm26a :=
  contract_ofM (C := cf26a) (fun f sem h => (Tab.cons k59 (Tab.cons k16 Tab.nil) : Tab _) _ (lk_mem' h)) (S := sg26a) (fn := Try.f26) (c := bodyOf Try.f26) (ts := [4]) Try.func26 (by kernel_rfl) (by kernel_rfl) (by kernel_rfl) (by kernel_rfl) (by kernel_rfl) (by kernel_rfl) (by kernel_rfl) r26a

theorem c26b : Contract Try.prog 26 sm26b :=
  contract_ofM (C := cf26b) (fun f sem h => (Tab.cons k59 (Tab.cons k16 Tab.nil) : Tab _) _ (lk_mem' h)) (S := sg26b) (fn := Try.f26) (c := bodyOf Try.f26) (ts := [4]) Try.func26 (by kernel_rfl) (by kernel_rfl) (by kernel_rfl) (by kernel_rfl) (by kernel_rfl) (by kernel_rfl) (by kernel_rfl) r26b

theorem k26 : Contract Try.prog 26 sem26 := contract_or c26 (contract_or c26a (c26b))

theorem c27 : Contract Try.prog 27 sm27 :=
  contract_ofM (C := cf27) (fun f sem h => (Tab.nil : Tab _) _ (lk_mem' h)) (S := sg27) (fn := Try.f27) (c := bodyOf Try.f27) (ts := [6]) Try.func27 (by kernel_rfl) (by kernel_rfl) (by kernel_rfl) (by kernel_rfl) (by kernel_rfl) (by kernel_rfl) (by kernel_rfl) r27

theorem c27a : Contract Try.prog 27 sm27a :=
  contract_ofM (C := cf27a) (fun f sem h => (Tab.cons k59 (Tab.cons k13 Tab.nil) : Tab _) _ (lk_mem' h)) (S := sg27a) (fn := Try.f27) (c := bodyOf Try.f27) (ts := [6]) Try.func27 (by kernel_rfl) (by kernel_rfl) (by kernel_rfl) (by kernel_rfl) (by kernel_rfl) (by kernel_rfl) (by kernel_rfl) r27a

theorem c27b : Contract Try.prog 27 sm27b :=
  contract_ofM (C := cf27b) (fun f sem h => (Tab.cons k59 (Tab.cons k13 Tab.nil) : Tab _) _ (lk_mem' h)) (S := sg27b) (fn := Try.f27) (c := bodyOf Try.f27) (ts := [6]) Try.func27 (by kernel_rfl) (by kernel_rfl) (by kernel_rfl) (by kernel_rfl) (by kernel_rfl) (by kernel_rfl) (by kernel_rfl) r27b

theorem k27 : Contract Try.prog 27 sem27 := contract_or c27 (contract_or c27a (c27b))

theorem c22 : Contract Try.prog 22 sm22 :=
  contract_ofM (C := cf22) (fun f sem h => (Tab.nil : Tab _) _ (lk_mem' h)) (S := sg22) (fn := Try.f22) (c := bodyOf Try.f22) (ts := [2]) Try.func22 (by kernel_rfl) (by kernel_rfl) (by kernel_rfl) (by kernel_rfl) (by kernel_rfl) (by kernel_rfl) (by kernel_rfl) r22

theorem c22a : Contract Try.prog 22 sm22a :=
  contract_ofM (C := cf22a) (fun f sem h => (Tab.nil : Tab _) _ (lk_mem' h)) (S := sg22a) (fn := Try.f22) (c := bodyOf Try.f22) (ts := [2]) Try.func22 (by kernel_rfl) (by kernel_rfl) (by kernel_rfl) (by kernel_rfl) (by kernel_rfl) (by kernel_rfl) (by kernel_rfl) r22a

theorem k22 : Contract Try.prog 22 sem22 := contract_or c22 (c22a)

theorem c12 : Contract Try.prog 12 sm12 :=
  contract_ofM (C := cf12) (fun f sem h => (Tab.cons k45 Tab.nil : Tab _) _ (lk_mem' h)) (S := sg12) (fn := Try.f12) (c := bodyOf Try.f12) (ts := [2]) Try.func12 (by kernel_rfl) (by kernel_rfl) (by kernel_rfl) (by kernel_rfl) (by kernel_rfl) (by kernel_rfl) (by kernel_rfl) r12

theorem k12 : Contract Try.prog 12 sem12 := c12

theorem c85 : Contract Try.prog 85 sm85 :=
  contract_ofM (C := cf85) (fun f sem h => (Tab.nil : Tab _) _ (lk_mem' h)) (S := sg85) (fn := Try.f85) (c := bodyOf Try.f85) (ts := [2]) Try.func85 (by kernel_rfl) (by kernel_rfl) (by kernel_rfl) (by kernel_rfl) (by kernel_rfl) (by kernel_rfl) (by kernel_rfl) r85

theorem k85 : Contract Try.prog 85 sem85 := c85

theorem c94 : Contract Try.prog 94 sm94 :=
  contract_ofM (C := cf94) (fun f sem h => (Tab.cons k90 Tab.nil : Tab _) _ (lk_mem' h)) (S := sg94) (fn := Try.f94) (c := bodyOf Try.f94) (ts := [2]) Try.func94 (by kernel_rfl) (by kernel_rfl) (by kernel_rfl) (by kernel_rfl) (by kernel_rfl) (by kernel_rfl) (by kernel_rfl) r94

theorem k94 : Contract Try.prog 94 sem94 := c94

theorem c91 : Contract Try.prog 91 sm91 :=
  contract_ofM (C := cf91) (fun f sem h => (Tab.cons k94 Tab.nil : Tab _) _ (lk_mem' h)) (S := sg91) (fn := Try.f91) (c := bodyOf Try.f91) (ts := [6, 7]) Try.func91 (by kernel_rfl) (by kernel_rfl) (by kernel_rfl) (by kernel_rfl) (by kernel_rfl) (by kernel_rfl) (by kernel_rfl) r91

theorem k91 : Contract Try.prog 91 sem91 := c91

theorem c86 : Contract Try.prog 86 sm86 :=
  contract_ofAM (C := cf86) (fun f sem h => (Tab.cons k91 Tab.nil : Tab _) _ (lk_mem' h)) (args := ag86) (alts := al86) (fn := Try.f86) (c := bodyOf Try.f86) (ts := [(4, some 91), (5, none), (6, none)]) Try.func86 (by kernel_rfl) (by kernel_rfl) (by kernel_rfl) (by kernel_rfl) (by kernel_rfl) (by kernel_rfl) (by kernel_rfl) r86

theorem k86 : Contract Try.prog 86 sem86 := c86

theorem c76 : Contract Try.prog 76 sm76 :=
  contract_ofM (C := cf76) (fun f sem h => (Tab.cons k85 (Tab.cons k86 Tab.nil) : Tab _) _ (lk_mem' h)) (S := sg76) (fn := Try.f76) (c := bodyOf Try.f76) (ts := [4]) Try.func76 (by kernel_rfl) (by kernel_rfl) (by kernel_rfl) (by kernel_rfl) (by kernel_rfl) (by kernel_rfl) (by kernel_rfl) r76

theorem k76 : Contract Try.prog 76 sem76 := c76

theorem c60 : Contract Try.prog 60 sm60 :=
  contract_ofM (C := cf60) (fun f sem h => (Tab.cons k76 Tab.nil : Tab _) _ (lk_mem' h)) (S := sg60) (fn := Try.f60) (c := bodyOf Try.f60) (ts := [2]) Try.func60 (by kernel_rfl) (by kernel_rfl) (by kernel_rfl) (by kernel_rfl) (by kernel_rfl) (by kernel_rfl) (by kernel_rfl) r60

theorem k60 : Contract Try.prog 60 sem60 := c60

theorem c28 : Contract Try.prog 28 sm28 :=
  contract_ofM (C := cf28) (fun f sem h => (Tab.nil : Tab _) _ (lk_mem' h)) (S := sg28) (fn := Try.f28) (c := bodyOf Try.f28) (ts := [2]) Try.func28 (by kernel_rfl) (by kernel_rfl) (by kernel_rfl) (by kernel_rfl) (by kernel_rfl) (by kernel_rfl) (by kernel_rfl) r28

theorem c28a : Contract Try.prog 28 sm28a :=
  contract_ofM (C := cf28a) (fun f sem h => (Tab.cons k60 Tab.nil : Tab _) _ (lk_mem' h)) (S := sg28a) (fn := Try.f28) (c := bodyOf Try.f28) (ts := [2]) Try.func28 (by kernel_rfl) (by kernel_rfl) (by kernel_rfl) (by kernel_rfl) (by kernel_rfl) (by kernel_rfl) (by kernel_rfl) r28a

theorem k28 : Contract Try.prog 28 sem28 := contract_or c28 (c28a)

theorem c78 : Contract Try.prog 78 sm78 :=
  contract_ofAM (C := cf78) (fun f sem h => (Tab.cons k42 Tab.nil : Tab _) _ (lk_mem' h)) (args := ag78) (alts := al78) (fn := Try.f78) (c := bodyOf Try.f78) (ts := [(2, some 77)]) Try.func78 (by kernel_rfl) (by kernel_rfl) (by kernel_rfl) (by kernel_rfl) (by kernel_rfl) (by kernel_rfl) (by kernel_rfl) r78

theorem k78 : Contract Try.prog 78 sem78 := c78

theorem c87 : Contract Try.prog 87 sm87 :=
  contract_ofAM (C := cf87) (fun f sem h => (Tab.nil : Tab _) _ (lk_mem' h)) (args := ag87) (alts := al87) (fn := Try.f87) (c := bodyOf Try.f87) (ts := [(4, some 77)]) Try.func87 (by kernel_rfl) (by kernel_rfl) (by kernel_rfl) (by kernel_rfl) (by kernel_rfl) (by kernel_rfl) (by kernel_rfl) r87

theorem k87 : Contract Try.prog 87 sem87 := c87

theorem c88 : Contract Try.prog 88 sm88 :=
  contract_ofM (C := cf88) (fun f sem h => (Tab.nil : Tab _) _ (lk_mem' h)) (S := sg88) (fn := Try.f88) (c := bodyOf Try.f88) (ts := [4]) Try.func88 (by kernel_rfl) (by kernel_rfl) (by kernel_rfl) (by kernel_rfl) (by kernel_rfl) (by kernel_rfl) (by kernel_rfl) r88

theorem k88 : Contract Try.prog 88 sem88 := c88

theorem c93 : Contract Try.prog 93 sm93 :=
  contract_ofAM (C := cf93) (fun f sem h => (Tab.nil : Tab _) _ (lk_mem' h)) (args := ag93) (alts := al93) (fn := Try.f93) (c := bodyOf Try.f93) (ts := [(2, some 77)]) Try.func93 (by kernel_rfl) (by kernel_rfl) (by kernel_rfl) (by kernel_rfl) (by kernel_rfl) (by kernel_rfl) (by kernel_rfl) r93

theorem k93 : Contract Try.prog 93 sem93 := c93

theorem c92 : Contract Try.prog 92 sm92 :=
  contract_ofAM (C := cf92) (fun f sem h => (Tab.nil : Tab _) _ (lk_mem' h)) (args := ag92) (alts := al92) (fn := Try.f92) (c := bodyOf Try.f92) (ts := [(6, some 77), (7, none)]) Try.func92 (by kernel_rfl) (by kernel_rfl) (by kernel_rfl) (by kernel_rfl) (by kernel_rfl) (by kernel_rfl) (by kernel_rfl) r92

theorem k92 : Contract Try.prog 92 sem92 := c92

theorem c89 : Contract Try.prog 89 sm89 :=
  contract_ofAM (C := cf89) (fun f sem h => (Tab.cons k93 (Tab.cons k92 (Tab.cons k88 Tab.nil)) : Tab _) _ (lk_mem' h)) (args := ag89) (alts := al89) (fn := Try.f89) (c := bodyOf Try.f89) (ts := [(4, some 77), (5, none)]) Try.func89 (by kernel_rfl) (by kernel_rfl) (by kernel_rfl) (by kernel_rfl) (by kernel_rfl) (by kernel_rfl) (by kernel_rfl) r89

theorem k89 : Contract Try.prog 89 sem89 := c89

theorem c77 : Contract Try.prog 77 sm77 :=
  contract_ofAM (C := cf77) (fun f sem h => (Tab.cons k87 (Tab.cons k88 (Tab.cons k89 Tab.nil)) : Tab _) _ (lk_mem' h)) (args := ag77) (alts := al77) (fn := Try.f77) (c := bodyOf Try.f77) (ts := [(4, some 77), (5, some 77)]) Try.func77 (by kernel_rfl) (by kernel_rfl) (by kernel_rfl) (by kernel_rfl) (by kernel_rfl) (by kernel_rfl) (by kernel_rfl) r77

theorem k77 : Contract Try.prog 77 sem77 := c77

theorem c79 : Contract Try.prog 79 sm79 :=
  contract_ofM (C := cf79) (fun f sem h => (Tab.nil : Tab _) _ (lk_mem' h)) (S := sg79) (fn := Try.f79) (c := bodyOf Try.f79) (ts := [2, 3]) Try.func79 (by kernel_rfl) (by kernel_rfl) (by kernel_rfl) (by kernel_rfl) (by kernel_rfl) (by kernel_rfl) (by kernel_rfl) r79

theorem k79 : Contract Try.prog 79 sem79 := c79

theorem c61 : Contract Try.prog 61 sm61 :=
  contract_ofM (C := cf61) (fun f sem h => (Tab.cons k41 (Tab.cons k78 (Tab.cons k77 (Tab.cons k79 Tab.nil))) : Tab _) _ (lk_mem' h)) (S := sg61) (fn := Try.f61) (c := bodyOf Try.f61) (ts := [4]) Try.func61 (by kernel_rfl) (by kernel_rfl) (by kernel_rfl) (by kernel_rfl) (by kernel_rfl) (by kernel_rfl) (by kernel_rfl) r61

theorem k61 : Contract Try.prog 61 sem61 := c61

theorem c29 : Contract Try.prog 29 sm29 :=
  contract_ofM (C := cf29) (fun f sem h => (Tab.cons k42 (Tab.cons k61 Tab.nil) : Tab _) _ (lk_mem' h)) (S := sg29) (fn := Try.f29) (c := bodyOf Try.f29) (ts := [2]) Try.func29 (by kernel_rfl) (by kernel_rfl) (by kernel_rfl) (by kernel_rfl) (by kernel_rfl) (by kernel_rfl) (by kernel_rfl) r29

theorem k29 : Contract Try.prog 29 sem29 := c29

theorem c30 : Contract Try.prog 30 sm30 :=
  contract_ofM (C := cf30) (fun f sem h => (Tab.nil : Tab _) _ (lk_mem' h)) (S := sg30) (fn := Try.f30) (c := bodyOf Try.f30) (ts := [2]) Try.func30 (by kernel_rfl) (by kernel_rfl) (by kernel_rfl) (by kernel_rfl) (by kernel_rfl) (by kernel_rfl) (by kernel_rfl) r30

theorem k30 : Contract Try.prog 30 sem30 := c30

theorem c6 : Contract Try.prog 6 sm6 :=
  contract_ofM (C := cf6) (fun f sem h => (Tab.cons k8 (Tab.cons k25 (Tab.cons k23 (Tab.cons k19 (Tab.cons k18 (Tab.cons k13 (Tab.cons k14 (Tab.cons k15 (Tab.cons k16 (Tab.cons k17 (Tab.cons k26 (Tab.cons k27 (Tab.cons k22 (Tab.cons k20 (Tab.cons k12 (Tab.cons k28 (Tab.cons k29 (Tab.cons k30 Tab.nil))))))))))))))))) : Tab _) _ (lk_mem' h)) (S := sg6) (fn := Try.f6) (c := bodyOf Try.f6) (ts := [4]) Try.func6 (by kernel_rfl) (by kernel_rfl) (by kernel_rfl) (by kernel_rfl) (by kernel_rfl) (by kernel_rfl) (by kernel_rfl) r6

theorem k6 : Contract Try.prog 6 sem6 := c6

theorem c73 : Contract Try.prog 73 sm73 :=
  contract_ofAM (C := cf73) (fun f sem h => (Tab.nil : Tab _) _ (lk_mem' h)) (args := ag73) (alts := al73) (fn := Try.f73) (c := bodyOf Try.f73) (ts := [(6, some 52)]) Try.func73 (by kernel_rfl) (by kernel_rfl) (by kernel_rfl) (by kernel_rfl) (by kernel_rfl) (by kernel_rfl) (by kernel_rfl) r73

theorem k73 : Contract Try.prog 73 sem73 := c73

theorem c75 : Contract Try.prog 75 sm75 :=
  contract_ofM (C := cf75) (fun f sem h => (Tab.nil : Tab _) _ (lk_mem' h)) (S := sg75) (fn := Try.f75) (c := bodyOf Try.f75) (ts := [2]) Try.func75 (by kernel_rfl) (by kernel_rfl) (by kernel_rfl) (by kernel_rfl) (by kernel_rfl) (by kernel_rfl) (by kernel_rfl) r75

theorem k75 : Contract Try.prog 75 sem75 := c75

theorem c84 : Contract Try.prog 84 sm84 :=
  contract_ofAM (C := cf84) (fun f sem h => (Tab.cons k79 Tab.nil : Tab _) _ (lk_mem' h)) (args := ag84) (alts := al84) (fn := Try.f84) (c := bodyOf Try.f84) (ts := [(2, some 30)]) Try.func84 (by kernel_rfl) (by kernel_rfl) (by kernel_rfl) (by kernel_rfl) (by kernel_rfl) (by kernel_rfl) (by kernel_rfl) r84

theorem k84 : Contract Try.prog 84 sem84 := c84

theorem c74 : Contract Try.prog 74 sm74 :=
  contract_ofAM (C := cf74) (fun f sem h => (Tab.cons k84 Tab.nil : Tab _) _ (lk_mem' h)) (args := ag74) (alts := al74) (fn := Try.f74) (c := bodyOf Try.f74) (ts := [(2, some 30)]) Try.func74 (by kernel_rfl) (by kernel_rfl) (by kernel_rfl) (by kernel_rfl) (by kernel_rfl) (by kernel_rfl) (by kernel_rfl) r74

theorem k74 : Contract Try.prog 74 sem74 := c74

theorem c54 : Contract Try.prog 54 sm54 :=
  contract_ofAM (C := cf54) (fun f sem h => (Tab.cons k73 (Tab.cons k75 (Tab.cons k74 Tab.nil)) : Tab _) _ (lk_mem' h)) (args := ag54) (alts := al54) (fn := Try.f54) (c := bodyOf Try.f54) (ts := [(6, some 52), (7, none)]) Try.func54 (by kernel_rfl) (by kernel_rfl) (by kernel_rfl) (by kernel_rfl) (by kernel_rfl) (by kernel_rfl) (by kernel_rfl) r54

theorem k54 : Contract Try.prog 54 sem54 := c54

theorem c55 : Contract Try.prog 55 sm55 :=
  contract_ofAM (C := cf55) (fun f sem h => (Tab.cons k54 (Tab.cons k73 (Tab.cons k75 (Tab.cons k74 Tab.nil))) : Tab _) _ (lk_mem' h)) (args := ag55) (alts := al55) (fn := Try.f55) (c := bodyOf Try.f55) (ts := [(2, some 52), (3, some 30)]) Try.func55 (by kernel_rfl) (by kernel_rfl) (by kernel_rfl) (by kernel_rfl) (by kernel_rfl) (by kernel_rfl) (by kernel_rfl) r55

theorem k55 : Contract Try.prog 55 sem55 := c55

theorem c82 : Contract Try.prog 82 sm82 :=
  contract_ofM (C := cf82) (fun f sem h => (Tab.nil : Tab _) _ (lk_mem' h)) (S := sg82) (fn := Try.f82) (c := bodyOf Try.f82) (ts := [2]) Try.func82 (by kernel_rfl) (by kernel_rfl) (by kernel_rfl) (by kernel_rfl) (by kernel_rfl) (by kernel_rfl) (by kernel_rfl) r82

theorem k82 : Contract Try.prog 82 sem82 := c82

theorem c69 : Contract Try.prog 69 sm69 :=
  contract_ofM (C := cf69) (fun f sem h => (Tab.cons k82 Tab.nil : Tab _) _ (lk_mem' h)) (S := sg69) (fn := Try.f69) (c := bodyOf Try.f69) (ts := [2, 3]) Try.func69 (by kernel_rfl) (by kernel_rfl) (by kernel_rfl) (by kernel_rfl) (by kernel_rfl) (by kernel_rfl) (by kernel_rfl) r69

theorem k69 : Contract Try.prog 69 sem69 := c69

theorem c43 : Contract Try.prog 43 sm43 :=
  contract_ofM (C := cf43) (fun f sem h => (Tab.cons k69 Tab.nil : Tab _) _ (lk_mem' h)) (S := sg43) (fn := Try.f43) (c := bodyOf Try.f43) (ts := [2]) Try.func43 (by kernel_rfl) (by kernel_rfl) (by kernel_rfl) (by kernel_rfl) (by kernel_rfl) (by kernel_rfl) (by kernel_rfl) r43

theorem k43 : Contract Try.prog 43 sem43 := c43

theorem c44 : Contract Try.prog 44 sm44 :=
  contract_ofM (C := cf44) (fun f sem h => (Tab.nil : Tab _) _ (lk_mem' h)) (S := sg44) (fn := Try.f44) (c := bodyOf Try.f44) (ts := [2]) Try.func44 (by kernel_rfl) (by kernel_rfl) (by kernel_rfl) (by kernel_rfl) (by kernel_rfl) (by kernel_rfl) (by kernel_rfl) r44

theorem k44 : Contract Try.prog 44 sem44 := c44

theorem c11 : Contract Try.prog 11 sm11 :=
  contract_ofM (C := cf11) (fun f sem h => (Tab.cons k43 (Tab.cons k44 Tab.nil) : Tab _) _ (lk_mem' h)) (S := sg11) (fn := Try.f11) (c := bodyOf Try.f11) (ts := [2]) Try.func11 (by kernel_rfl) (by kernel_rfl) (by kernel_rfl) (by kernel_rfl) (by kernel_rfl) (by kernel_rfl) (by kernel_rfl) r11

theorem k11 : Contract Try.prog 11 sem11 := c11

theorem c56 : Contract Try.prog 56 sm56 :=
  contract_ofAM (C := cf56) (fun f sem h => (Tab.cons k54 (Tab.cons k73 (Tab.cons k11 Tab.nil)) : Tab _) _ (lk_mem' h)) (args := ag56) (alts := al56) (fn := Try.f56) (c := bodyOf Try.f56) (ts := [(2, some 52), (3, none)]) Try.func56 (by kernel_rfl) (by kernel_rfl) (by kernel_rfl) (by kernel_rfl) (by kernel_rfl) (by kernel_rfl) (by kernel_rfl) r56

theorem k56 : Contract Try.prog 56 sem56 := c56

theorem c57 : Contract Try.prog 57 sm57 :=
  contract_ofAM (C := cf57) (fun f sem h => (Tab.cons k54 (Tab.cons k73 Tab.nil) : Tab _) _ (lk_mem' h)) (args := ag57) (alts := al57) (fn := Try.f57) (c := bodyOf Try.f57) (ts := [(4, some 52), (5, none)]) Try.func57 (by kernel_rfl) (by kernel_rfl) (by kernel_rfl) (by kernel_rfl) (by kernel_rfl) (by kernel_rfl) (by kernel_rfl) r57

theorem k57 : Contract Try.prog 57 sem57 := c57

theorem c21 : Contract Try.prog 21 sm21 :=
  contract_ofAM (C := cf21) (fun f sem h => (Tab.cons k13 (Tab.cons k54 (Tab.cons k14 (Tab.cons k15 (Tab.cons k16 (Tab.cons k55 (Tab.cons k17 (Tab.cons k56 (Tab.cons k26 (Tab.cons k57 (Tab.cons k27 (Tab.cons k25 Tab.nil))))))))))) : Tab _) _ (lk_mem' h)) (args := ag21) (alts := al21) (fn := Try.f21) (c := bodyOf Try.f21) (ts := [(6, some 52), (7, none)]) Try.func21 (by kernel_rfl) (by kernel_rfl) (by kernel_rfl) (by kernel_rfl) (by kernel_rfl) (by kernel_rfl) (by kernel_rfl) r21

theorem c21a : Contract Try.prog 21 sm21a :=
  contract_ofAM (C := cf21a) (fun f sem h => (Tab.cons k13 (Tab.cons k54 (Tab.cons k14 (Tab.cons k15 (Tab.cons k16 (Tab.cons k55 (Tab.cons k17 (Tab.cons k56 (Tab.cons k26 (Tab.cons k57 (Tab.cons k27 (Tab.cons k25 Tab.nil))))))))))) : Tab _) _ (lk_mem' h)) (args := ag21a) (alts := al21a) (fn := Try.f21) (c := bodyOf Try.f21) (ts := [(6, some 52), (7, none)]) Try.func21 (by kernel_rfl) (by kernel_rfl) (by kernel_rfl) (by kernel_rfl) (by kernel_rfl) (by kernel_rfl) (by kernel_rfl) r21a

theorem k21 : Contract Try.prog 21 sem21 := contract_or c21 (c21a)

theorem c24 : Contract Try.prog 24 sm24 :=
  contract_ofM (C := cf24) (fun f sem h => (Tab.nil : Tab _) _ (lk_mem' h)) (S := sg24) (fn := Try.f24) (c := bodyOf Try.f24) (ts := [2, 3]) Try.func24 (by kernel_rfl) (by kernel_rfl) (by kernel_rfl) (by kernel_rfl) (by kernel_rfl) (by kernel_rfl) (by kernel_rfl) r24

theorem k24 : Contract Try.prog 24 sem24 := c24

theorem c5 : Contract Try.prog 5 sm5 :=
  contract_ofM (C := cf5) (fun f sem h => (Tab.cons k7 (Tab.cons k8 (Tab.cons k12 (Tab.cons k21 (Tab.cons k22 (Tab.cons k20 (Tab.cons k23 (Tab.cons k19 (Tab.cons k18 (Tab.cons k24 Tab.nil))))))))) : Tab _) _ (lk_mem' h)) (S := sg5) (fn := Try.f5) (c := bodyOf Try.f5) (ts := [4]) Try.func5 (by kernel_rfl) (by kernel_rfl) (by kernel_rfl) (by kernel_rfl) (by kernel_rfl) (by kernel_rfl) (by kernel_rfl) r5

theorem k5 : Contract Try.prog 5 sem5 := c5

theorem c4 : Contract Try.prog 4 sm4 :=
  contract_ofM (C := cf4) (fun f sem h => (Tab.cons k7 (Tab.cons k8 (Tab.cons k10 (Tab.cons k11 (Tab.cons k9 (Tab.cons k12 (Tab.cons k13 (Tab.cons k14 (Tab.cons k15 (Tab.cons k16 (Tab.cons k17 (Tab.cons k19 (Tab.cons k18 (Tab.cons k20 Tab.nil))))))))))))) : Tab _) _ (lk_mem' h)) (S := sg4) (fn := Try.f4) (c := bodyOf Try.f4) (ts := [4]) Try.func4 (by kernel_rfl) (by kernel_rfl) (by kernel_rfl) (by kernel_rfl) (by kernel_rfl) (by kernel_rfl) (by kernel_rfl) r4

theorem k4 : Contract Try.prog 4 sem4 := c4

end Go.Proofs.Ytffgheglileflaa
