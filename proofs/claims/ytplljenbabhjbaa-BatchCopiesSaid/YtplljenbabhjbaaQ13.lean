/- The functions of this seat, and the laws as plain Lean. -/
import Derived.Test.YtplljenbabhjbaaQ12

set_option linter.unusedSimpArgs false
set_option linter.unusedVariables false

namespace Go.Proofs.Ytplljenbabhjbaa
open Go Go.Pv Go.Proofs Go.L
set_option maxRecDepth 100000

theorem turn (p : Int) : IntKind.i64.wrap (1 - minI (maxI p 0) 1) ≠ p := by
  have h : minI (maxI p 0) 1 = 0 ∧ p ≤ 0 ∨ minI (maxI p 0) 1 = 1 ∧ 1 ≤ p := by
    unfold minI maxI
    split <;> split <;> omega
  rcases h with ⟨h1, h2⟩ | ⟨h1, h2⟩
  · rw [h1, show IntKind.i64.wrap (1 - 0) = 1 by decide]; omega
  · rw [h1, show IntKind.i64.wrap (1 - 1) = 0 by decide]; omega

theorem flip {x : Int} (h : inR .u64 x = true) : bitsI .xor .u64 IntKind.u64.max x ≠ x := by
  have hx : 0 ≤ x ∧ x < 18446744073709551616 := by
    simp [inR, IntKind.min, IntKind.max, IntKind.signed, IntKind.bits] at h
    omega
  obtain ⟨n, rfl⟩ : ∃ n : Nat, x = (n : Int) := ⟨x.toNat, by omega⟩
  have hm : IntKind.u64.max = ((18446744073709551615 : Nat) : Int) := by decide
  intro e
  have e : IntKind.u64.wrap ((BitVec.ofInt 64 IntKind.u64.max ^^^ BitVec.ofInt 64 (n : Int)).toNat : Int) = (n : Int) := e
  rw [hm, BitVec.ofInt_natCast, BitVec.ofInt_natCast] at e
  have h1 : (BitVec.ofNat 64 18446744073709551615 ^^^ BitVec.ofNat 64 n) = ~~~ (BitVec.ofNat 64 n) := by
    have : BitVec.ofNat 64 18446744073709551615 = BitVec.allOnes 64 := by decide
    rw [this, BitVec.allOnes_xor]
  rw [h1, BitVec.toNat_not, BitVec.toNat_ofNat, Nat.mod_eq_of_lt (by omega), wu64 (by omega)] at e
  omega

theorem same_self (a : Up) : sameU a a = true := by simp [sameU]

theorem okS_of {u : Up} (hs : small u) : okS u := by
  obtain ⟨k1, k2, k3, k4⟩ := hs
  exact ⟨by omega, by omega, by omega, by omega⟩

theorem copies_ok {a b : Up} (ha : okW a) : law25_BatchCopies a b = some ((true, ()), ()) := by
  unfold law25_BatchCopies
  obtain ⟨r, e, hr⟩ := light_ok [a, b]
  have eU : ∀ u : Up, ((u.1, u.2.1, (u.2.2.1.1, u.2.2.1.2.1, u.2.2.1.2.2.1, u.2.2.1.2.2.2.1, (u.2.2.1.2.2.2.2.1.1, u.2.2.1.2.2.2.2.1.2.1, ()), ()), u.2.2.2.1, u.2.2.2.2.1, ()) : Up) = u := fun _ => rfl
  rw [eU, eU, e, Option.bind_some]
  cases r with
  | false =>
    simp only [Bool.not_false, cond_true]
    rw [lives_ok]; rfl
  | true =>
    simp only [Bool.not_true, cond_false]
    have hS : okS a := okS_of ((hr rfl).2 a (by simp))
    have hs : ∀ c, batch_Same a c = _ := fun c => same_ok (b := c) hS
    simp only [hs, ref_same_ok hS, Option.bind_some, decide_true, Bool.not_true, cond_false, copy_ok hS, same_self, gtrue, gsome, cond_true]
    have c0 : ∀ {α : Type} (x : α) (l : List α), Option.map (fun _ => (0 : Int)) (ckI 0 (x :: l).length) = some 0 := by
      intro α x l
      unfold ckI
      rw [if_pos ⟨by omega, by rw [List.length_cons]; omega⟩]; rfl
    have r0 : ∀ {α : Type} (x : α) (l : List α), rdI (x :: l) 0 = some x := fun _ _ => rfl
    have t0 : ∀ {α : Type} (x y : α) (l : List α), stI (x :: l) 0 y = some (y :: l) := by
      intro α x y l
      unfold stI
      rw [if_pos ⟨by omega, by simp⟩]; rfl
    have dp : ∀ {α : Type} (x : α) (l : List α), decide (((x :: l).length : Int) > 0) = true := fun x l => decide_eq_true (by rw [List.length_cons]; omega)
    have dn : ∀ {α : Type}, decide ((([] : List α).length : Int) > 0) = false := rfl
    obtain ⟨k, t, ⟨vs, ms, ln, pr, ⟨ac, xs, _⟩, _⟩, g, ps, _⟩ := a
    obtain ⟨_, _, hA⟩ := ha
    dsimp only at hA
    have fin : ∀ x y : Bool, x = y → (guardR (decide (x = y)) law25_lives ((false, ()), ()) fun r_42 => some (((bif decide (x = y) then r_42.1.1 else false), ()), ())) = some ((true, ()), ()) := by
      intro x y h
      rw [decide_eq_true h, gtrue, lives_ok]; rfl
    cases ps with
    | cons p ps =>
      have tp := turn p
      simp only [dp, c0, r0, t0, Option.bind_some, Option.map_some, cond_true, decide_eq_false tp, Bool.not_false, Bool.not_true, cond_false]
      cases vs with
      | cons v vs =>
        simp only [dp, c0, r0, t0, Option.bind_some, Option.map_some, cond_true]
        cases xs with
        | cons x xs =>
          simp only [dp, c0, r0, t0, Option.bind_some, Option.map_some, cond_true]
          exact fin _ _ (by simp [sameU, Ne.symm tp])
        | nil =>
          simp only [dn, cond_false]
          exact fin _ _ (by simp [sameU, Ne.symm tp])
      | nil =>
        simp only [dn, cond_false]
        cases xs with
        | cons x xs =>
          simp only [dp, c0, r0, t0, Option.bind_some, Option.map_some, cond_true]
          exact fin _ _ (by simp [sameU, Ne.symm tp])
        | nil =>
          simp only [dn, cond_false]
          exact fin _ _ (by simp [sameU, Ne.symm tp])
    | nil =>
      simp only [dn, cond_false]
      cases vs with
      | cons v vs =>
        have tp := turn v.1
        have tv : v ≠ (IntKind.i64.wrap (1 - minI (maxI v.1 0) 1), v.2) := fun e => tp (congrArg (·.1) e).symm
        simp only [dp, c0, r0, t0, Option.bind_some, Option.map_some, cond_true]
        cases xs with
        | cons x xs =>
          simp only [dp, c0, r0, t0, Option.bind_some, Option.map_some, cond_true]
          exact fin _ _ (by simp [sameU, tv])
        | nil =>
          simp only [dn, cond_false]
          exact fin _ _ (by simp [sameU, tv])
      | nil =>
        simp only [dn, cond_false]
        cases xs with
        | cons x xs =>
          have tx := flip (hA x (by simp)).2
          have tv : x ≠ (x.1, x.2.1, bitsI .xor .u64 IntKind.u64.max x.2.2.1, x.2.2.2) := fun e => tx (congrArg (·.2.2.1) e).symm
          simp only [dp, c0, r0, t0, Option.bind_some, Option.map_some, cond_true]
          exact fin _ _ (by simp [sameU, tv])
        | nil =>
          rw [lives_ok]
          rfl

end Go.Proofs.Ytplljenbabhjbaa
