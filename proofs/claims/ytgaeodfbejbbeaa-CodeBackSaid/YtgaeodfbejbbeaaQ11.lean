/- The functions of this seat, and the laws as plain Lean. -/
import Derived.Test.YtgaeodfbejbbeaaQ10

set_option linter.unusedSimpArgs false
set_option linter.unusedVariables false

namespace Go.Proofs.Ytgaeodfbejbbeaa
open Go Go.Pv Go.Proofs Go.L
set_option maxRecDepth 100000

theorem lives_ok : law09_lives = some ((true, ()), ()) := by
  unfold law09_lives
  have hv : okV ((10, 7, 0, (0, 0, 0, ()), ()) : Ins).2.2.2.1 := ⟨rfl, rfl⟩
  have e7 : dtx 7 = [55] := by
    unfold dtx
    rw [if_neg (by decide)]
    show text 10 7 = _
    unfold text
    rw [D_eq (by omega)]
    rfl
  have e0 : dtx 0 = [48] := by
    unfold dtx
    rw [if_neg (by decide)]
    show text 10 0 = _
    unfold text
    rw [D_eq (by omega)]
    rfl
  have ht : itx (10, 7, 0, (0, 0, 0, ()), ()) = [115, 108, 105, 99, 101, 32, 55, 32, 48] := by
    unfold itx
    show (if knownB 10 = true then (rowK 10).name ++ (if (10 : Int) = 0 then [32] ++ vtxt (0, 0, 0, ()) else if (rowK 10).many = 0 then [] else if (rowK 10).many = 1 then [32] ++ dtx 7 else [32] ++ dtx 7 ++ ([32] ++ dtx 0)) else []) = _
    rw [e7, e0]
    rfl
  rw [show code_Effect 10 = some ((1, 1, ()), ()) from Effect_ok (k := 10) (by omega), Option.bind_some, Text_ok hv, ht, Option.bind_some]
  rfl

theorem back_ok {x : Ins} (hv : okV x.2.2.2.1) : law09_CodeBack x = some ((true, ()), ()) := by
  unfold law09_CodeBack
  have hz : ((x.1, x.2.1, x.2.2.1, (x.2.2.2.1.1, x.2.2.2.1.2.1, x.2.2.2.1.2.2.1, ()), ()) : Ins) = x := rfl
  rw [show code_Plain_127 () = some ((insZ, false, ()), ()) from rfl, Option.bind_some]
  simp only [gsome]
  rw [show (bif false then true else (!(decide ((bif !false then insZ else (0, 0, 0, (0, 0, 0, ()), ())).1 = 0) && (decide ((bif !false then insZ else (0, 0, 0, (0, 0, 0, ()), ())).2.1 = 0) && (decide ((bif !false then insZ else (0, 0, 0, (0, 0, 0, ()), ())).2.2.1 = 0) && (decide ((bif !false then insZ else (0, 0, 0, (0, 0, 0, ()), ())).2.2.2.1.1 = 0) && (decide ((bif !false then insZ else (0, 0, 0, (0, 0, 0, ()), ())).2.2.2.1.2.1 = 0) && decide ((bif !false then insZ else (0, 0, 0, (0, 0, 0, ()), ())).2.2.2.1.2.2.1 = 0)))))) : Bool)) = false from rfl, cond_false, hz, make_ok hv, Option.bind_some]
  by_cases hm : mayI x = 0
  · rw [if_pos hm]
    dsimp only
    rw [decide_eq_true rfl, Bool.not_true, cond_false]
    obtain ⟨k, hk, hk35⟩ := known_of (known_may hm)
    obtain ⟨n, a, b, v, _⟩ := x
    dsimp only at hk
    subst hk
    have hb := back_eq hm
    dsimp only at hv
    rw [Int.toNat_natCast, Plain_ok (ty_lt hk35) _ _ _ hv, hb, if_pos ⟨hm, by rw [Int.toNat_natCast]⟩, Option.bind_some]
    simp only [cond_true, decide_true, Bool.and_self, gtrue, lives_ok, Option.bind_some]
  · rw [if_neg hm]
    dsimp only
    rw [decide_eq_false hm, Bool.not_false, cond_true, lives_ok]
    rfl

end Go.Proofs.Ytgaeodfbejbbeaa

namespace Go.Proofs.Ytgaeodfbejbbeaa
open Go Go.Pv Go.Proofs Go.L
set_option maxRecDepth 100000

def dst (l : List Ins) (w0 : Int) (i : Nat) : ((List Ins) × (List Stp) × Int × Int × Int × Int × Int × Unit) × Unit :=
  (((l, (allR l).1, (allR l).2.1, (allR l).2.2.1, ((i + ((l.take 64).drop i).findIdx badI : Nat) : Int), (if i + ((l.take 64).drop i).findIdx badI < min l.length 64 then mayI (l.getD (i + ((l.take 64).drop i).findIdx badI) insZ) else w0), (i : Int) - 1, ()), ()) : ((List Ins) × (List Stp) × Int × Int × Int × Int × Int × Unit) × Unit)

end Go.Proofs.Ytgaeodfbejbbeaa
