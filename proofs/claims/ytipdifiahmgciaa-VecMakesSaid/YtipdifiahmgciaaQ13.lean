/- The functions of this seat, and the laws as plain Lean. -/
import Derived.Test.YtipdifiahmgciaaQ12

namespace Go.Proofs.Ytipdifiahmgciaa
open Go Go.Pv Go.Proofs Go.L
set_option maxRecDepth 100000

theorem twos_ok {a b : Int × Int × Int × Unit} (hA : Wf (.agg (.pair (.int .i64) (.pair (.int .u64) (.pair (.int .u64) .unit)))) a) (hB : Wf (.agg (.pair (.int .i64) (.pair (.int .u64) (.pair (.int .u64) .unit)))) b) : law02_VecTwos a b = some ((true, ()), ()) := by
  obtain ⟨w, x, _, hx, rfl⟩ := vec_arg hA
  obtain ⟨u, y, _, hy, rfl⟩ := vec_arg hB
  have hpv : ((vw w x).1, (vw w x).2.1, (vw w x).2.2.1, ()) = vw w x := rfl
  have hpu : ((vw u y).1, (vw u y).2.1, (vw u y).2.2.1, ()) = vw u y := rfl
  unfold law02_VecTwos
  simp only [hpv, hpu, vec_Add2_ok hx hy, vec_Sub2_ok hx hy, vec_AddSat2_ok hx hy, vec_SubSat2_ok hx hy, vec_And2_ok hx hy, vec_Or2_ok hx hy, vec_Xor2_ok hx hy, vec_Eq_ok hx hy, vec_Less_ok hx hy, Option.bind_some]
  have q1 := ref02_two_ok (op := [97, 100, 100]) (.inl rfl) (w := w) (u := u) hx hy
  have q2 := ref02_two_ok (op := [115, 117, 98]) (.inr (.inr (.inl rfl))) (w := w) (u := u) hx hy
  have q3 := ref02_two_ok (op := [97, 100, 100, 115, 97, 116]) (.inr (.inl rfl)) (w := w) (u := u) hx hy
  have q4 := ref02_two_ok (op := [115, 117, 98, 115, 97, 116]) (.inr (.inr (.inr (.inl rfl)))) (w := w) (u := u) hx hy
  have q5 := ref02_two_ok (op := [97, 110, 100]) (.inr (.inr (.inr (.inr (.inl rfl))))) (w := w) (u := u) hx hy
  have q6 := ref02_two_ok (op := [111, 114]) (.inr (.inr (.inr (.inr (.inr (.inl rfl)))))) (w := w) (u := u) hx hy
  have q7 := ref02_two_ok (op := [120, 111, 114]) (.inr (.inr (.inr (.inr (.inr (.inr rfl)))))) (w := w) (u := u) hx hy
  have q8 := ref02_eq_ok (w := w) (u := u) hx hy
  have q9 := ref02_less_ok (w := w) (u := u) hx hy
  generalize both w u x y (vw w (sat [97, 100, 100] w.toNat x y % 2 ^ w.toNat), 0, ()) = e1 at q1 ⊢
  generalize both w u x y (vw w (sat [115, 117, 98] w.toNat x y % 2 ^ w.toNat), 0, ()) = e2 at q2 ⊢
  generalize both w u x y (vw w (sat [97, 100, 100, 115, 97, 116] w.toNat x y % 2 ^ w.toNat), 0, ()) = e3 at q3 ⊢
  generalize both w u x y (vw w (sat [115, 117, 98, 115, 97, 116] w.toNat x y % 2 ^ w.toNat), 0, ()) = e4 at q4 ⊢
  generalize both w u x y (vw w (sat [97, 110, 100] w.toNat x y % 2 ^ w.toNat), 0, ()) = e5 at q5 ⊢
  generalize both w u x y (vw w (sat [111, 114] w.toNat x y % 2 ^ w.toNat), 0, ()) = e6 at q6 ⊢
  generalize both w u x y (vw w (sat [120, 111, 114] w.toNat x y % 2 ^ w.toNat), 0, ()) = e7 at q7 ⊢
  generalize both w u x y (vw 1 (bif decide (x = y) then 1 else 0), 0, ()) = e8 at q8 ⊢
  generalize both w u x y (vw 1 (bif decide (x < y) then 1 else 0), 0, ()) = e9 at q9 ⊢
  generalize vw w x = A at *
  generalize vw u y = C at *
  refine (?_ : loopR (fun (z : ((List (List Int)) × Int × Unit) × ((Int × Int × Int × Unit) × (Int × Int × Int × Unit) × (List (Int × Int × Int × Unit)) × (List Int) × Unit)) => law02_VecTwos_s0 z.1.1 z.1.2.1 z.2.1 z.2.2.1 z.2.2.2.1 z.2.2.2.2.1) (([[97, 100, 100], [115, 117, 98], [97, 100, 100, 115, 97, 116], [115, 117, 98, 115, 97, 116], [97, 110, 100], [111, 114], [120, 111, 114], [101, 113], [108, 101, 115, 115]], 0, ()), A, C, [e1.1, e2.1, e3.1, e4.1, e5.1, e6.1, e7.1, e8.1, e9.1], [e1.2.1, e2.2.1, e3.2.1, e4.2.1, e5.2.1, e6.2.1, e7.2.1, e8.2.1, e9.2.1], ()) = some ((true, ()), ()))
  refine loop_up (fun i => ((([[97, 100, 100], [115, 117, 98], [97, 100, 100, 115, 97, 116], [115, 117, 98, 115, 97, 116], [97, 110, 100], [111, 114], [120, 111, 114], [101, 113], [108, 101, 115, 115]], (i : Int), ()), A, C, [e1.1, e2.1, e3.1, e4.1, e5.1, e6.1, e7.1, e8.1, e9.1], [e1.2.1, e2.2.1, e3.2.1, e4.2.1, e5.2.1, e6.2.1, e7.2.1, e8.2.1, e9.2.1], ()) : ((List (List Int)) × Int × Unit) × ((Int × Int × Int × Unit) × (Int × Int × Int × Unit) × (List (Int × Int × Int × Unit)) × (List Int) × Unit))) 9 ?_ ?_ 0 (by omega)
  · intro i hi
    dsimp only
    unfold law02_VecTwos_s0
    have hpa : (A.1, A.2.1, A.2.2.1, ()) = A := rfl
    have hpc : (C.1, C.2.1, C.2.2.1, ()) = C := rfl
    rw [decide_eq_true (show (i : Int) < 9 by omega), cond_true, wi64 (by omega)]
    simp only [hpa, hpc, List.length_cons, List.length_nil, Nat.zero_add, Nat.reduceAdd, ck_nat (show i < 9 from hi)]
    have hcase : i = 0 ∨ i = 1 ∨ i = 2 ∨ i = 3 ∨ i = 4 ∨ i = 5 ∨ i = 6 ∨ i = 7 ∨ i = 8 := by omega
    rcases hcase with rfl | rfl | rfl | rfl | rfl | rfl | rfl | rfl | rfl
    · show ((ref02_Two [97, 100, 100] A C).bind _) = _
      rw [q1]; simp only [Option.bind_some, gsome]; rw [show rdI [e1.1, e2.1, e3.1, e4.1, e5.1, e6.1, e7.1, e8.1, e9.1] ((0 : Nat) : Int) = some e1.1 from rfl]; simp only [Option.bind_some, decide_true, Bool.and_self, Bool.not_true, Bool.not_false, gtrue, cond_true, cond_false]; rw [ck_nat (show 0 < 9 by omega), show rdI [e1.2.1, e2.2.1, e3.2.1, e4.2.1, e5.2.1, e6.2.1, e7.2.1, e8.2.1, e9.2.1] ((0 : Nat) : Int) = some e1.2.1 from rfl, Option.bind_some, decide_eq_true rfl]; rfl
    · show ((ref02_Two [115, 117, 98] A C).bind _) = _
      rw [q2]; simp only [Option.bind_some, gsome]; rw [show rdI [e1.1, e2.1, e3.1, e4.1, e5.1, e6.1, e7.1, e8.1, e9.1] ((1 : Nat) : Int) = some e2.1 from rfl]; simp only [Option.bind_some, decide_true, Bool.and_self, Bool.not_true, Bool.not_false, gtrue, cond_true, cond_false]; rw [ck_nat (show 1 < 9 by omega), show rdI [e1.2.1, e2.2.1, e3.2.1, e4.2.1, e5.2.1, e6.2.1, e7.2.1, e8.2.1, e9.2.1] ((1 : Nat) : Int) = some e2.2.1 from rfl, Option.bind_some, decide_eq_true rfl]; rfl
    · show ((ref02_Two [97, 100, 100, 115, 97, 116] A C).bind _) = _
      rw [q3]; simp only [Option.bind_some, gsome]; rw [show rdI [e1.1, e2.1, e3.1, e4.1, e5.1, e6.1, e7.1, e8.1, e9.1] ((2 : Nat) : Int) = some e3.1 from rfl]; simp only [Option.bind_some, decide_true, Bool.and_self, Bool.not_true, Bool.not_false, gtrue, cond_true, cond_false]; rw [ck_nat (show 2 < 9 by omega), show rdI [e1.2.1, e2.2.1, e3.2.1, e4.2.1, e5.2.1, e6.2.1, e7.2.1, e8.2.1, e9.2.1] ((2 : Nat) : Int) = some e3.2.1 from rfl, Option.bind_some, decide_eq_true rfl]; rfl
    · show ((ref02_Two [115, 117, 98, 115, 97, 116] A C).bind _) = _
      rw [q4]; simp only [Option.bind_some, gsome]; rw [show rdI [e1.1, e2.1, e3.1, e4.1, e5.1, e6.1, e7.1, e8.1, e9.1] ((3 : Nat) : Int) = some e4.1 from rfl]; simp only [Option.bind_some, decide_true, Bool.and_self, Bool.not_true, Bool.not_false, gtrue, cond_true, cond_false]; rw [ck_nat (show 3 < 9 by omega), show rdI [e1.2.1, e2.2.1, e3.2.1, e4.2.1, e5.2.1, e6.2.1, e7.2.1, e8.2.1, e9.2.1] ((3 : Nat) : Int) = some e4.2.1 from rfl, Option.bind_some, decide_eq_true rfl]; rfl
    · show ((ref02_Two [97, 110, 100] A C).bind _) = _
      rw [q5]; simp only [Option.bind_some, gsome]; rw [show rdI [e1.1, e2.1, e3.1, e4.1, e5.1, e6.1, e7.1, e8.1, e9.1] ((4 : Nat) : Int) = some e5.1 from rfl]; simp only [Option.bind_some, decide_true, Bool.and_self, Bool.not_true, Bool.not_false, gtrue, cond_true, cond_false]; rw [ck_nat (show 4 < 9 by omega), show rdI [e1.2.1, e2.2.1, e3.2.1, e4.2.1, e5.2.1, e6.2.1, e7.2.1, e8.2.1, e9.2.1] ((4 : Nat) : Int) = some e5.2.1 from rfl, Option.bind_some, decide_eq_true rfl]; rfl
    · show ((ref02_Two [111, 114] A C).bind _) = _
      rw [q6]; simp only [Option.bind_some, gsome]; rw [show rdI [e1.1, e2.1, e3.1, e4.1, e5.1, e6.1, e7.1, e8.1, e9.1] ((5 : Nat) : Int) = some e6.1 from rfl]; simp only [Option.bind_some, decide_true, Bool.and_self, Bool.not_true, Bool.not_false, gtrue, cond_true, cond_false]; rw [ck_nat (show 5 < 9 by omega), show rdI [e1.2.1, e2.2.1, e3.2.1, e4.2.1, e5.2.1, e6.2.1, e7.2.1, e8.2.1, e9.2.1] ((5 : Nat) : Int) = some e6.2.1 from rfl, Option.bind_some, decide_eq_true rfl]; rfl
    · show ((ref02_Two [120, 111, 114] A C).bind _) = _
      rw [q7]; simp only [Option.bind_some, gsome]; rw [show rdI [e1.1, e2.1, e3.1, e4.1, e5.1, e6.1, e7.1, e8.1, e9.1] ((6 : Nat) : Int) = some e7.1 from rfl]; simp only [Option.bind_some, decide_true, Bool.and_self, Bool.not_true, Bool.not_false, gtrue, cond_true, cond_false]; rw [ck_nat (show 6 < 9 by omega), show rdI [e1.2.1, e2.2.1, e3.2.1, e4.2.1, e5.2.1, e6.2.1, e7.2.1, e8.2.1, e9.2.1] ((6 : Nat) : Int) = some e7.2.1 from rfl, Option.bind_some, decide_eq_true rfl]; rfl
    · show ((ref02_Two [101, 113] A C).bind _) = _
      rw [q8]; simp only [Option.bind_some, gsome]; rw [show rdI [e1.1, e2.1, e3.1, e4.1, e5.1, e6.1, e7.1, e8.1, e9.1] ((7 : Nat) : Int) = some e8.1 from rfl]; simp only [Option.bind_some, decide_true, Bool.and_self, Bool.not_true, Bool.not_false, gtrue, cond_true, cond_false]; rw [ck_nat (show 7 < 9 by omega), show rdI [e1.2.1, e2.2.1, e3.2.1, e4.2.1, e5.2.1, e6.2.1, e7.2.1, e8.2.1, e9.2.1] ((7 : Nat) : Int) = some e8.2.1 from rfl, Option.bind_some, decide_eq_true rfl]; rfl
    · show ((ref02_Two [108, 101, 115, 115] A C).bind _) = _
      rw [q9]; simp only [Option.bind_some, gsome]; rw [show rdI [e1.1, e2.1, e3.1, e4.1, e5.1, e6.1, e7.1, e8.1, e9.1] ((8 : Nat) : Int) = some e9.1 from rfl]; simp only [Option.bind_some, decide_true, Bool.and_self, Bool.not_true, Bool.not_false, gtrue, cond_true, cond_false]; rw [ck_nat (show 8 < 9 by omega), show rdI [e1.2.1, e2.2.1, e3.2.1, e4.2.1, e5.2.1, e6.2.1, e7.2.1, e8.2.1, e9.2.1] ((8 : Nat) : Int) = some e9.2.1 from rfl, Option.bind_some, decide_eq_true rfl]; rfl
  · dsimp only
    unfold law02_VecTwos_s0
    rw [decide_eq_false (show ¬ ((9 : Nat) : Int) < 9 by omega), cond_false, lives_ok]
    rfl

end Go.Proofs.Ytipdifiahmgciaa
