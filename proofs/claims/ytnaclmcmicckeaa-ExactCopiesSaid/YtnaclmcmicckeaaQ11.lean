/- The functions of this seat, and the laws as plain Lean. -/
import Derived.Test.YtnaclmcmicckeaaQ10

set_option linter.unusedSimpArgs false
set_option linter.unusedVariables false

namespace Go.Proofs.Ytnaclmcmicckeaa
open Go Go.Pv Go.Proofs Go.L
set_option maxRecDepth 100000

theorem may8 {x : Nat} (hx : x < 256) : mayV (8, 0, (x : Int), ()) = true ∧ okV (8, 0, (x : Int), ()) := by
 constructor
 ·unfold mayV may
  have hb : L.bitLen x ≤ 8 := L.bitLen_le (by omega)
  have : (0 : Int).toNat * 18446744073709551616 + ((x : Nat) : Int).toNat = x := by omega
  dsimp only
  rw [this]
  exact decide_eq_true ⟨by omega, by omega⟩
 ·unfold okV
  simp [inR, IntKind.min, IntKind.max, IntKind.signed, IntKind.bits]
  omega

theorem lives_ok : law19_lives = some ((true, ()), ()) := by
 obtain ⟨l, e1, h1, hn⟩ := new_ok (most := 1) (by omega) (by omega)
 have e1 : exact_New 1 = _ := e1
 obtain ⟨m5, o5⟩ := may8 (x := 5) (by omega)
 obtain ⟨m6, o6⟩ := may8 (x := 6) (by omega)
 unfold law19_lives
 rw [e1, Option.bind_some]
 dsimp only
 rcases put_ok h1 (v := 7) o5 with ⟨q, _⟩ | ⟨_, ⟨w, q⟩, _⟩ | ⟨_, _, q, _⟩ | ⟨_, _, _, l2, e2, h2, hh⟩
 ·rw [m5] at q; cases q
 ·exact absurd q (hn _ _)
 ·cases q
 have e2 : exact_Map_Put_767 (l, 0, 1, ()) (8, 0, 5, ()) 7 = some ((0, ()), (l2, 1, 1, ()), ()) := e2
 have i7 : has l2 (8, 0, 5, ()) 7 := (hh _ _).2 (.inr ⟨rfl, rfl⟩)
 rcases put_ok h2 (v := 8) o6 with ⟨q, _⟩ | ⟨_, ⟨w, q⟩, _⟩ | ⟨_, _, _, e3⟩ | ⟨_, _, q, _⟩
 ·rw [m6] at q; cases q
 ·rcases (hh _ _).1 q with q | ⟨q, _⟩
  ·exact absurd q (hn _ _)
  ·simp at q
 rotate_left
 ·omega
 have e3 : exact_Map_Put_767 (l2, 1, 1, ()) (8, 0, 6, ()) 8 = some ((8, ()), (l2, 1, 1, ()), ()) := e3
 rcases get_ok h2 o5 with ⟨v, _, q, e4⟩ | ⟨q | q, _⟩
 ·have := has_one h2 q i7
  subst this
  have e4 : exact_Map_Get_ca4 (l2, 1, 1, ()) (8, 0, 5, ()) = some ((7, true, ()), (l2, 1, 1, ()), ()) := e4
  have c1 : ((1 : Nat) : Int) = 1 := rfl
  simp only [c1, e2, e3, e4, Option.bind_some, decide_true, Bool.not_true, Bool.not_false, gsome, gtrue, cond_true, cond_false]
 ·have q : mayV (8, 0, ((5 : Nat) : Int), ()) = false := q
  rw [m5] at q; cases q
 ·exact absurd i7 (q 7)

abbrev Op := Int × Int × K4 × Unit

end Go.Proofs.Ytnaclmcmicckeaa
