/- The functions of this seat, and the laws as plain Lean. -/
import Derived.Test.YtipdifiahmgciaaQ10

namespace Go.Proofs.Ytipdifiahmgciaa
open Go Go.Pv Go.Proofs Go.L
set_option maxRecDepth 100000

theorem meets_ok {a b c : Int × Int × Int × Unit} (hA : Wf (.agg (.pair (.int .i64) (.pair (.int .u64) (.pair (.int .u64) .unit)))) a) (hB : Wf (.agg (.pair (.int .i64) (.pair (.int .u64) (.pair (.int .u64) .unit)))) b) (hC : Wf (.agg (.pair (.int .i64) (.pair (.int .u64) (.pair (.int .u64) .unit)))) c) : law02_VecMeets a b c = some ((true, ()), ()) := by
  obtain ⟨w1, x, _, hx, rfl⟩ := vec_arg hA
  obtain ⟨w2, y, _, hy, rfl⟩ := vec_arg hB
  obtain ⟨w3, z, _, hz, rfl⟩ := vec_arg hC
  have hpx : ((vw w1 x).1, (vw w1 x).2.1, (vw w1 x).2.2.1, ()) = vw w1 x := rfl
  have hpy : ((vw w2 y).1, (vw w2 y).2.1, (vw w2 y).2.2.1, ()) = vw w2 y := rfl
  have hpz : ((vw w3 z).1, (vw w3 z).2.1, (vw w3 z).2.2.1, ()) = vw w3 z := rfl
  obtain ⟨r1, e1, e2⟩ := meets (w1 := w1) (w2 := w2) (w3 := w3) hx hy hz
  obtain ⟨r2, e3, e4⟩ := within (w1 := w1) (w2 := w2) (w3 := w3) hx hy hz
  unfold law02_VecMeets
  simp only [hpx, hpy, hpz, e1, e2, Option.bind_some, decide_true, gsome, gtrue, cond_true, e3, e4, lives_ok]

end Go.Proofs.Ytipdifiahmgciaa
