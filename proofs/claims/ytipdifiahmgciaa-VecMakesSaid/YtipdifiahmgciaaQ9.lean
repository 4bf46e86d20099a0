/- The functions of this seat, and the laws as plain Lean. -/
import Derived.Test.YtipdifiahmgciaaQ8

namespace Go.Proofs.Ytipdifiahmgciaa
open Go Go.Pv Go.Proofs Go.L
set_option maxRecDepth 100000

theorem lives_ok : law02_lives = some ((true, ()), ()) := by
  have may8 : ∀ x, x = 255 ∨ x = 1 ∨ x = 0 → may 8 x = true := by
    intro x hx
    have hb : bitLen x ≤ 8 := bitLen_le (by rcases hx with rfl | rfl | rfl <;> decide)
    unfold may
    exact decide_eq_true ⟨by omega, by omega⟩
  have e255 : ((8, 0, 255, ()) : Int × Int × Int × Unit) = vw 8 255 := by decide
  have e1 : ((8, 0, 1, ()) : Int × Int × Int × Unit) = vw 8 1 := by decide
  have t8 : text 10 (8 : Int).toNat = [56] := by
    unfold text
    rw [D_eq (by omega)]
    decide
  have t0 : text 16 0 = [48] := by
    unfold text
    rw [D_eq (by omega)]
    decide
  have t255 : text 16 255 = [102, 102] := by
    unfold text
    rw [D_eq (by omega), D_eq (by omega)]
    decide
  have a1 : vec_Add (vw 8 255) (vw 8 1) = some ((vw 8 0, 0, ()), ()) := vec_Add_ok (may8 255 (.inl rfl)) (may8 1 (.inr (.inl rfl)))
  have a2 : vec_AddSat (vw 8 255) (vw 8 1) = some ((vw 8 255, 0, ()), ()) := vec_AddSat_ok (may8 255 (.inl rfl)) (may8 1 (.inr (.inl rfl)))
  have x1 := vec_Text_ok (may8 0 (.inr (.inr rfl))) (by omega)
  have x2 := vec_Text_ok (may8 255 (.inl rfl)) (by omega)
  rw [t8, t0] at x1
  rw [t8, t255] at x2
  unfold law02_lives
  simp only [e255, e1, a1, a2, Option.bind_some, decide_true, gsome, gtrue, cond_true, x1, x2, List.cons_append, List.nil_append]

/-- what the kit says of a vector that came in -/
theorem vec_arg {v : Int × Int × Int × Unit} (h : Wf (.agg (.pair (.int .i64) (.pair (.int .u64) (.pair (.int .u64) .unit)))) v) : ∃ w x, (-9223372036854775808 ≤ w ∧ w < 9223372036854775808) ∧ x < 340282366920938463463374607431768211456 ∧ v = vw w x := by
  obtain ⟨x, hx, e⟩ := vw_of h.2.1 h.2.2.1
  have h1 : inR .i64 v.1 = true := h.1
  refine ⟨v.1, x, ?_, hx, e⟩
  simp [inR, IntKind.min, IntKind.max, IntKind.signed, IntKind.bits] at h1
  omega

theorem parts_ok {a b : Int × Int × Int × Unit} {l : List Int} (hA : Wf (.agg (.pair (.int .i64) (.pair (.int .u64) (.pair (.int .u64) .unit)))) a) (hB : Wf (.agg (.pair (.int .i64) (.pair (.int .u64) (.pair (.int .u64) .unit)))) b) (hl : l.length = 2) : law02_VecParts a b l = some ((true, ()), ()) := by
  obtain ⟨w, x, _, hx, rfl⟩ := vec_arg hA
  obtain ⟨u, y, _, hy, rfl⟩ := vec_arg hB
  match l, hl with
  | [p, q], _ =>
    have hpv : ((vw w x).1, (vw w x).2.1, (vw w x).2.2.1, ()) = vw w x := rfl
    have hpu : ((vw u y).1, (vw u y).2.1, (vw u y).2.2.1, ()) = vw u y := rfl
    obtain ⟨v1, c1, e1, e2⟩ := slices (hi := p) (lo := q) (w := w) hx
    obtain ⟨v2, c2, e3, e4⟩ := cats (w := w) (u := u) hx hy
    unfold law02_VecParts
    have k0 : ∀ {β : Type} (k : Int → Option β), (Option.map (fun _ => (0 : Int)) (ckI 0 2)).bind k = k 0 := fun k => rfl
    have k1 : ∀ {β : Type} (k : Int → Option β), (Option.map (fun _ => (1 : Int)) (ckI 1 2)).bind k = k 1 := fun k => rfl
    have r0 : rdI [p, q] 0 = some p := rfl
    have r1 : rdI [p, q] 1 = some q := rfl
    simp only [k0, k1, r0, r1, Option.bind_some, hpv, hpu, e1, e2, e3, e4, v_eqb, decide_true, gsome, gtrue, cond_true, Bool.and_self, lives_ok]

end Go.Proofs.Ytipdifiahmgciaa
