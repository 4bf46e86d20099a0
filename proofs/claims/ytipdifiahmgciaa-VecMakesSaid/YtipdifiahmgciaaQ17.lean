/- The functions of this seat, and the laws as plain Lean. -/
import Derived.Test.YtipdifiahmgciaaQ16

namespace Go.Proofs.Ytipdifiahmgciaa
open Go Go.Pv Go.Proofs Go.L
set_option maxRecDepth 100000

theorem vec_Text_bad {w : Int} {x : Nat} (hm : may w x = false) (hx : x < 340282366920938463463374607431768211456) : vec_Text (vw w x) = some (([], ()), ()) := by
  have hpv : ((vw w x).1, (vw w x).2.1, (vw w x).2.2.1, ()) = vw w x := rfl
  unfold vec_Text
  rw [hpv, vec_May_ok hx, Option.bind_some, hm]
  rfl

theorem texts {w : Int} {x : Nat} (hx : x < 340282366920938463463374607431768211456) : ∃ t, vec_Text (vw w x) = some ((t, ()), ()) ∧ ref02_Text (vw w x) = some ((t, ()), ()) := by
  have hpv : ((vw w x).1, (vw w x).2.1, (vw w x).2.2.1, ()) = vw w x := rfl
  cases hm : may w x
  · refine ⟨_, vec_Text_bad hm hx, ?_⟩
    unfold ref02_Text
    rw [hpv, ref02_May_ok hx, Option.bind_some, hm]
    rfl
  · refine ⟨_, vec_Text_ok hm hx, ?_⟩
    obtain ⟨h1, h2, h3⟩ := may_of hm
    obtain ⟨W, rfl⟩ : ∃ W : Nat, w = W := ⟨w.toNat, by omega⟩
    unfold ref02_Text
    have hl1 := text_len (b := 10) (w := W) (by omega) (by omega)
    have hl2 := text_len (b := 16) (w := x) (by omega) hx
    have hof : ref01_Of 0 (IntKind.u64.wrap (vw (W : Int) x).1) = some ((rowB (BitVec.ofNat 128 W), ()), ()) := by
      rw [show (vw (W : Int) x).1 = (W : Int) from rfl, u64_small (by omega)]
      have := of_wp (w := W) (by omega)
      rw [← wp_small (show W < 1000 by omega)] at this
      exact this
    have e10 : ref01_Text (rowB (BitVec.ofNat 128 W)) 10 = some ((text 10 W, ()), ()) := ref01_Text_ok (b := 10) (by omega) (by omega) (by omega)
    have e16 : ref01_Text (rowB (BitVec.ofNat 128 x)) 16 = some ((text 16 x, ()), ()) := ref01_Text_ok (b := 16) hx (by omega) (by omega)
    have hof2 : ref01_Of (vw (W : Int) x).2.1 (vw (W : Int) x).2.2.1 = some ((rowB (BitVec.ofNat 128 x), ()), ()) := of_wp hx
    rw [hpv, ref02_May_ok hx, Option.bind_some, hm, Bool.not_true, cond_false, hof, Option.bind_some]
    dsimp only
    rw [e10, Option.bind_some]
    dsimp only
    rw [show catI (text 10 W) [39] = some (text 10 W ++ [39]) by unfold catI; rw [if_pos (by simp only [List.length_cons, List.length_nil]; omega)], Option.bind_some, hof2, Option.bind_some]
    dsimp only
    rw [e16, Option.bind_some]
    dsimp only
    rw [show catI (text 10 W ++ [39]) (text 16 x) = some (text 10 W ++ [39] ++ text 16 x) by unfold catI; rw [if_pos (by simp only [List.length_append, List.length_cons, List.length_nil]; omega)], Option.bind_some, Int.toNat_natCast]

theorem texts_ok {a : Int × Int × Int × Unit} {s : List Int} (hA : Wf (.agg (.pair (.int .i64) (.pair (.int .u64) (.pair (.int .u64) .unit)))) a) : law02_VecTexts a s = some ((true, ()), ()) := by
  obtain ⟨w, x, _, hx, rfl⟩ := vec_arg hA
  have hpv : ((vw w x).1, (vw w x).2.1, (vw w x).2.2.1, ()) = vw w x := rfl
  unfold law02_VecTexts
  by_cases hl : (s.length : Int) > 300
  · rw [decide_eq_true hl, cond_true, lives_ok]
    rfl
  · rw [decide_eq_false hl, cond_false]
    obtain ⟨v, c, e1, e2⟩ := vparses (s := s) (by omega)
    obtain ⟨t, e3, e4⟩ := texts (w := w) hx
    simp only [e1, e2, hpv, e3, e4, Option.bind_some, decide_true, gsome, gtrue, cond_true, Bool.and_self, lives_ok]

end Go.Proofs.Ytipdifiahmgciaa
