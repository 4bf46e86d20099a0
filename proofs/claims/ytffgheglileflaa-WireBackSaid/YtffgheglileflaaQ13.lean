/- The functions that the statements reach as plain Lean, and what they compute. -/
import Derived.Test.YtffgheglileflaaQ12

set_option linter.unusedSimpArgs false
set_option linter.unusedVariables false

namespace Go.L
open Go Go.Pv
set_option maxRecDepth 100000

theorem u8_nat {n : Nat} (h : n < 256) : inR .u8 (n : Int) = true := by
  simp [inR, IntKind.min, IntKind.max, IntKind.signed, IntKind.bits]; omega

theorem be_u8 {n m : Nat} : ∀ v ∈ be n m, inR .u8 v = true := by
  intro v hv
  unfold be lrow at hv
  obtain ⟨j, _, rfl⟩ := List.mem_map.1 hv
  exact u8_nat (by omega)

theorem enc_u8 {w : Int} {x : Nat} : ∀ v ∈ enc w x, inR .u8 v = true := by
  intro v hv
  cases hm : may w x with
  | false =>
    unfold enc at hv
    rw [hm, cond_false] at hv
    rw [List.mem_singleton.1 hv]; rfl
  | true =>
    obtain ⟨h1, h2, _⟩ := may_of hm
    rw [enc_eq hm] at hv
    rcases List.mem_append.1 hv with h | h
    · rw [List.mem_singleton.1 h]
      have := u8_nat (n := w.toNat) (by omega)
      rw [show ((w.toNat : Nat) : Int) = w by omega] at this
      exact this
    · exact be_u8 v h

end Go.L
