/- The functions of this seat, and the laws as plain Lean. -/
import Derived.Test.YtipdifiahmgciaaQ14

namespace Go.Proofs.Ytipdifiahmgciaa
open Go Go.Pv Go.Proofs Go.L
set_option maxRecDepth 100000

theorem ones_ok {a : Int × Int × Int × Unit} {n : Int} (hA : Wf (.agg (.pair (.int .i64) (.pair (.int .u64) (.pair (.int .u64) .unit)))) a) (hN : Wf (.int .i64) n) : law02_VecOnes a n = some ((true, ()), ()) := by
  obtain ⟨w, x, hw, hx, rfl⟩ := vec_arg hA
  have hn : n < 9223372036854775808 := by
    have h1 : inR .i64 n = true := hN
    simp [inR, IntKind.min, IntKind.max, IntKind.signed, IntKind.bits] at h1
    omega
  have hpv : ((vw w x).1, (vw w x).2.1, (vw w x).2.2.1, ()) = vw w x := rfl
  obtain ⟨e1, p1, q1⟩ := nots (w := w) (n := n) hx
  obtain ⟨e2, p2, q2⟩ := negs (w := w) (n := n) hx
  obtain ⟨e3, p3, q3⟩ := shls (w := w) (n := n) hx hn
  obtain ⟨e4, p4, q4⟩ := shrs (w := w) (n := n) hx hn
  obtain ⟨e5, p5, q5⟩ := casts (w := w) (n := n) hx
  obtain ⟨e6, p6, q6⟩ := prefixes (w := w) (n := n) hn hw
  unfold law02_VecOnes
  simp only [hpv, p1, p2, p3, p4, p5, Option.bind_some]
  have hA1 : (vw w x).1 = w := rfl
  generalize vw w x = A at *
  refine (?_ : loopR (fun (z : (Int × (List (List Int)) × Int × Unit) × ((Int × Int × Int × Unit) × (List (Int × Int × Int × Unit)) × (List Int) × Unit)) => law02_VecOnes_s0 z.1.1 z.1.2.1 z.1.2.2.1 z.2.1 z.2.2.1 z.2.2.2.1) ((n, [[110, 111, 116], [110, 101, 103], [115, 104, 108], [115, 104, 114], [99, 97, 115, 116]], 0, ()), A, [e1.1, e2.1, e3.1, e4.1, e5.1], [e1.2.1, e2.2.1, e3.2.1, e4.2.1, e5.2.1], ()) = some ((true, ()), ()))
  refine loop_up (fun i => (((n, [[110, 111, 116], [110, 101, 103], [115, 104, 108], [115, 104, 114], [99, 97, 115, 116]], (i : Int), ()), A, [e1.1, e2.1, e3.1, e4.1, e5.1], [e1.2.1, e2.2.1, e3.2.1, e4.2.1, e5.2.1], ()) : (Int × (List (List Int)) × Int × Unit) × ((Int × Int × Int × Unit) × (List (Int × Int × Int × Unit)) × (List Int) × Unit))) 5 ?_ ?_ 0 (by omega)
  · intro i hi
    dsimp only
    unfold law02_VecOnes_s0
    have hpa : (A.1, A.2.1, A.2.2.1, ()) = A := rfl
    rw [decide_eq_true (show (i : Int) < 5 by omega), cond_true, wi64 (by omega)]
    simp only [hpa, List.length_cons, List.length_nil, Nat.zero_add, Nat.reduceAdd, ck_nat (show i < 5 from hi)]
    have hcase : i = 0 ∨ i = 1 ∨ i = 2 ∨ i = 3 ∨ i = 4 := by omega
    rcases hcase with rfl | rfl | rfl | rfl | rfl
    · show ((ref02_One [110, 111, 116] A n).bind _) = _
      rw [q1]; simp only [Option.bind_some, gsome]; rw [show rdI [e1.1, e2.1, e3.1, e4.1, e5.1] ((0 : Nat) : Int) = some e1.1 from rfl]; simp only [Option.bind_some, decide_true, Bool.and_self, Bool.not_true, Bool.not_false, gtrue, cond_true, cond_false]; rw [ck_nat (show 0 < 5 by omega), show rdI [e1.2.1, e2.2.1, e3.2.1, e4.2.1, e5.2.1] ((0 : Nat) : Int) = some e1.2.1 from rfl, Option.bind_some, decide_eq_true rfl]; rfl
    · show ((ref02_One [110, 101, 103] A n).bind _) = _
      rw [q2]; simp only [Option.bind_some, gsome]; rw [show rdI [e1.1, e2.1, e3.1, e4.1, e5.1] ((1 : Nat) : Int) = some e2.1 from rfl]; simp only [Option.bind_some, decide_true, Bool.and_self, Bool.not_true, Bool.not_false, gtrue, cond_true, cond_false]; rw [ck_nat (show 1 < 5 by omega), show rdI [e1.2.1, e2.2.1, e3.2.1, e4.2.1, e5.2.1] ((1 : Nat) : Int) = some e2.2.1 from rfl, Option.bind_some, decide_eq_true rfl]; rfl
    · show ((ref02_One [115, 104, 108] A n).bind _) = _
      rw [q3]; simp only [Option.bind_some, gsome]; rw [show rdI [e1.1, e2.1, e3.1, e4.1, e5.1] ((2 : Nat) : Int) = some e3.1 from rfl]; simp only [Option.bind_some, decide_true, Bool.and_self, Bool.not_true, Bool.not_false, gtrue, cond_true, cond_false]; rw [ck_nat (show 2 < 5 by omega), show rdI [e1.2.1, e2.2.1, e3.2.1, e4.2.1, e5.2.1] ((2 : Nat) : Int) = some e3.2.1 from rfl, Option.bind_some, decide_eq_true rfl]; rfl
    · show ((ref02_One [115, 104, 114] A n).bind _) = _
      rw [q4]; simp only [Option.bind_some, gsome]; rw [show rdI [e1.1, e2.1, e3.1, e4.1, e5.1] ((3 : Nat) : Int) = some e4.1 from rfl]; simp only [Option.bind_some, decide_true, Bool.and_self, Bool.not_true, Bool.not_false, gtrue, cond_true, cond_false]; rw [ck_nat (show 3 < 5 by omega), show rdI [e1.2.1, e2.2.1, e3.2.1, e4.2.1, e5.2.1] ((3 : Nat) : Int) = some e4.2.1 from rfl, Option.bind_some, decide_eq_true rfl]; rfl
    · show ((ref02_One [99, 97, 115, 116] A n).bind _) = _
      rw [q5]; simp only [Option.bind_some, gsome]; rw [show rdI [e1.1, e2.1, e3.1, e4.1, e5.1] ((4 : Nat) : Int) = some e5.1 from rfl]; simp only [Option.bind_some, decide_true, Bool.and_self, Bool.not_true, Bool.not_false, gtrue, cond_true, cond_false]; rw [ck_nat (show 4 < 5 by omega), show rdI [e1.2.1, e2.2.1, e3.2.1, e4.2.1, e5.2.1] ((4 : Nat) : Int) = some e5.2.1 from rfl, Option.bind_some, decide_eq_true rfl]; rfl
  · dsimp only
    unfold law02_VecOnes_s0
    rw [decide_eq_false (show ¬ ((5 : Nat) : Int) < 5 by omega), cond_false, hA1, p6, q6, Option.bind_some, Option.bind_some]
    simp only [decide_true, Bool.and_self, gsome, gtrue, cond_true, lives_ok, Option.bind_some]
    rfl

end Go.Proofs.Ytipdifiahmgciaa
