/- Small laws on plain runs: loops, numbers, lists. -/
import Derived.Test.YtmjappidghjkjaaPvRow
namespace Go.Pv
noncomputable section

theorem iter_det {σ ρ : Type} {f : σ → Option (σ ⊕ ρ)} : ∀ {n m : Nat} {x : σ} {r s : ρ}, iter f n x = some r → iter f m x = some s → r = s
  | 0, _, _, _, _, h, _ => by cases h
  | _ + 1, 0, _, _, _, _, h => by cases h
  | n + 1, m + 1, x, r, s, h1, h2 => by
    simp only [iter] at h1 h2
    cases hf : f x with
    | none => rw [hf] at h1; cases h1
    | some z =>
      rw [hf] at h1 h2
      cases z with
      | inr y => exact (Option.some.inj h1).symm.trans (Option.some.inj h2)
      | inl y => exact iter_det h1 h2

theorem loopR_of {σ ρ : Type} {f : σ → Option (σ ⊕ ρ)} {x : σ} {r : ρ} {n : Nat} (h : iter f n x = some r) : loopR f x = some r := by
  unfold loopR
  have hx : ∃ n r, iter f n x = some r := ⟨n, r, h⟩
  rw [dif_pos hx]
  exact congrArg some (iter_det (Classical.choose_spec (Classical.choose_spec hx)) h)

theorem loopR_out {σ ρ : Type} {f : σ → Option (σ ⊕ ρ)} {x : σ} {r : ρ} (h : f x = some (.inr r)) : loopR f x = some r := loopR_of (n := 1) (by simp [iter, h])

theorem loopR_on {σ ρ : Type} {f : σ → Option (σ ⊕ ρ)} {x y : σ} {r : ρ} (h : f x = some (.inl y)) (hy : loopR f y = some r) : loopR f x = some r := by
  obtain ⟨n, hn⟩ : ∃ n, iter f n y = some r := by
    unfold loopR at hy
    split at hy
    · rename_i hx
      obtain rfl := Option.some.inj hy
      exact ⟨_, Classical.choose_spec (Classical.choose_spec hx)⟩
    · cases hy
  exact loopR_of (n := n + 1) (by simp [iter, h, hn])

/-- a loop by a measure: from a state that fits, out comes what is asked -/
theorem loopR_inv {σ ρ : Type} {f : σ → Option (σ ⊕ ρ)} (I : σ → Prop) (μ : σ → Nat) (R : ρ → Prop) (step : ∀ x, I x → (∃ r, f x = some (.inr r) ∧ R r) ∨ ∃ y, f x = some (.inl y) ∧ I y ∧ μ y < μ x) {x : σ} (h : I x) : ∃ r, loopR f x = some r ∧ R r := by
  have key : ∀ n x, μ x = n → I x → ∃ r, loopR f x = some r ∧ R r := by
    intro n
    induction n using Nat.strongRecOn with
    | _ n ih =>
      intro x hn hI
      rcases step x hI with ⟨r, h1, h2⟩ | ⟨y, h1, h2, h3⟩
      · exact ⟨r, loopR_out h1, h2⟩
      · obtain ⟨r, h4, h5⟩ := ih (μ y) (hn ▸ h3) y rfl h2
        exact ⟨r, loopR_on h1 h4, h5⟩
  exact key _ x rfl h

theorem wrap_u64 {n : Int} (h0 : 0 ≤ n) (h1 : n < 18446744073709551616) : IntKind.u64.wrap n = n := by
  simp only [IntKind.wrap, IntKind.signed, IntKind.bits]
  simp
  omega
theorem wrap_u16 {n : Int} (h0 : 0 ≤ n) (h1 : n < 65536) : IntKind.u16.wrap n = n := by
  simp only [IntKind.wrap, IntKind.signed, IntKind.bits]
  simp
  omega
theorem wrap_u8 {n : Int} (h0 : 0 ≤ n) (h1 : n < 256) : IntKind.u8.wrap n = n := by
  simp only [IntKind.wrap, IntKind.signed, IntKind.bits]
  simp
  omega
theorem wrap_i64 {n : Int} (h0 : -9223372036854775808 ≤ n) (h1 : n < 9223372036854775808) : IntKind.i64.wrap n = n := by
  simp only [IntKind.wrap, IntKind.signed, IntKind.bits]
  simp
  omega

theorem rdI_nat {α : Type} {xs : List α} {i : Nat} (h : i < xs.length) : rdI xs (i : Int) = some xs[i] := by
  unfold rdI
  rw [if_pos (by omega)]
  simp [h]

end
end Go.Pv
