/- The functions of this seat, and the laws as plain Lean. -/
import Derived.Test.YtgaeodfbejbbeaaQ10

set_option linter.unusedSimpArgs false
set_option linter.unusedVariables false

namespace Go.Proofs.Ytgaeodfbejbbeaa
open Go Go.Pv Go.Proofs Go.L
set_option maxRecDepth 100000

theorem lives_ok : law09_lives = some ((true, ()), ()) := by
  unfold law09_lives
  have hv : okV ((10, 7, 0, (0, 0, 0, ()), ()) : Ins).2.2.2.1 := ⟨rfl, rfl⟩
  have e7 : dtx 7 = [55] := by
    unfold dtx
    rw [if_neg (by decide)]
    show text 10 7 = _
    unfold text
    rw [D_eq (by omega)]
    rfl
  have e0 : dtx 0 = [48] := by
    unfold dtx
    rw [if_neg (by decide)]
    show text 10 0 = _
    unfold text
    rw [D_eq (by omega)]
    rfl
  have ht : itx (10, 7, 0, (0, 0, 0, ()), ()) = [115, 108, 105, 99, 101, 32, 55, 32, 48] := by
    unfold itx
    show (if knownB 10 = true then (rowK 10).name ++ (if (10 : Int) = 0 then [32] ++ vtxt (0, 0, 0, ()) else if (rowK 10).many = 0 then [] else if (rowK 10).many = 1 then [32] ++ dtx 7 else [32] ++ dtx 7 ++ ([32] ++ dtx 0)) else []) = _
    rw [e7, e0]
    rfl
  rw [show code_Effect 10 = some ((1, 1, ()), ()) from Effect_ok (k := 10) (by omega), Option.bind_some, Text_ok hv, ht, Option.bind_some]
  rfl

theorem back_ok {x : Ins} (hv : okV x.2.2.2.1) : law09_CodeBack x = some ((true, ()), ()) := by
  unfold law09_CodeBack
  have hz : ((x.1, x.2.1, x.2.2.1, (x.2.2.2.1.1, x.2.2.2.1.2.1, x.2.2.2.1.2.2.1, ()), ()) : Ins) = x := rfl
  rw [show code_Plain_127 () = some ((insZ, false, ()), ()) from rfl, Option.bind_some]
  simp only [gsome]
  rw [show (bif false then true else (!(decide ((bif !false then insZ else (0, 0, 0, (0, 0, 0, ()), ())).1 = 0) && (decide ((bif !false then insZ else (0, 0, 0, (0, 0, 0, ()), ())).2.1 = 0) && (decide ((bif !false then insZ else (0, 0, 0, (0, 0, 0, ()), ())).2.2.1 = 0) && (decide ((bif !false then insZ else (0, 0, 0, (0, 0, 0, ()), ())).2.2.2.1.1 = 0) && (decide ((bif !false then insZ else (0, 0, 0, (0, 0, 0, ()), ())).2.2.2.1.2.1 = 0) && decide ((bif !false then insZ else (0, 0, 0, (0, 0, 0, ()), ())).2.2.2.1.2.2.1 = 0)))))) : Bool)) = false from rfl, cond_false, hz, make_ok hv, Option.bind_some]
  by_cases hm : mayI x = 0
  · rw [if_pos hm]
    dsimp only
    rw [decide_eq_true rfl, Bool.not_true, cond_false]
    obtain ⟨k, hk, hk35⟩ := known_of (known_may hm)
    obtain ⟨n, a, b, v, _⟩ := x
    dsimp only at hk
    subst hk
    have hb := back_eq hm
    dsimp only at hv
    rw [Int.toNat_natCast, Plain_ok (ty_lt hk35) _ _ _ hv, hb, if_pos ⟨hm, by rw [Int.toNat_natCast]⟩, Option.bind_some]
    simp only [cond_true, decide_true, Bool.and_self, gtrue, lives_ok, Option.bind_some]
  · rw [if_neg hm]
    dsimp only
    rw [decide_eq_false hm, Bool.not_false, cond_true, lives_ok]
    rfl

end Go.Proofs.Ytgaeodfbejbbeaa

namespace Go.Proofs.Ytgaeodfbejbbeaa
open Go Go.Pv Go.Proofs Go.L
set_option maxRecDepth 100000

def dst (l : List Ins) (w0 : Int) (i : Nat) : ((List Ins) × (List Stp) × Int × Int × Int × Int × Int × Unit) × Unit :=
  (((l, (allR l).1, (allR l).2.1, (allR l).2.2.1, ((i + ((l.take 64).drop i).findIdx badI : Nat) : Int), (if i + ((l.take 64).drop i).findIdx badI < min l.length 64 then mayI (l.getD (i + ((l.take 64).drop i).findIdx badI) insZ) else w0), (i : Int) - 1, ()), ()) : ((List Ins) × (List Stp) × Int × Int × Int × Int × Int × Unit) × Unit)

end Go.Proofs.Ytgaeodfbejbbeaa

namespace Go.Proofs.Ytgaeodfbejbbeaa
open Go Go.Pv Go.Proofs Go.L
set_option maxRecDepth 100000

theorem ckk {k : Nat} (h : k < 35) : Option.map (fun _ => (k : Int)) (ckI (k : Int) 35) = some (k : Int) := by
  unfold ckI
  rw [if_pos ⟨by omega, by omega⟩]; rfl
theorem okZ : okV (0, 0, 0, ()) := ⟨rfl, rfl⟩

/-- a step made by hand, and what is said of it -/
theorem by_hand {t : Nat} (h : t < 11) (o a b : Int) {v : V4T} (hv : okV v) :
    (∃ k : Nat, k < 35 ∧ (plS t o a b v).1 = (k : Int) ∧ mayI (plS t o a b v) = 0 ∧ decide (tyN (rowK k).ty = tyN t) = true ∧ code_Plain_f6b (mkS t o a b v) = some ((plS t o a b v, true, ()), ())) ∨
    (∃ k : Nat, k < 35 ∧ (plS t o a b v).1 = (k : Int) ∧ mayI (plS t o a b v) = 0 ∧ decide (tyN (rowK k).ty = tyN t) = false ∧ code_Plain_f6b (mkS t o a b v) = some ((((0, 0, 0, (0, 0, 0, ()), ()) : Ins), false, ()), ())) ∨
    (decide (mayI (plS t o a b v) = 0) = false ∧ code_Plain_f6b (mkS t o a b v) = some ((((0, 0, 0, (0, 0, 0, ()), ()) : Ins), false, ()), ())) := by
  have hp := Plain_ok h o a b hv
  by_cases hm : mayI (plS t o a b v) = 0
  · obtain ⟨k, hk, hk35⟩ := known_of (known_may hm)
    rw [hk, Int.toNat_natCast] at hp
    have he := tyN_eq (ty_lt hk35) h
    by_cases ht : (rowK k).ty = t
    · rw [if_pos ⟨hm, ht⟩] at hp
      exact .inl ⟨k, hk35, hk, hm, by rw [he]; exact decide_eq_true ht, hp⟩
    · rw [if_neg fun q => ht q.2] at hp
      exact .inr (.inl ⟨k, hk35, hk, hm, by rw [he]; exact decide_eq_false ht, hp⟩)
  · rw [if_neg fun q => hm q.1] at hp
    exact .inr (.inr ⟨decide_eq_false hm, hp⟩)

theorem steps_ok {n : List Int} {v : V4T} (hn : n.length = 4) (hv : okV v) : law09_CodeSteps n v = some ((true, ()), ()) := by
  match n, hn with
  | [kd, o, a, b], _ =>
  unfold law09_CodeSteps
  have c0 : Option.map (fun _ => (0 : Int)) (ckI 0 4) = some 0 := rfl
  have c1 : Option.map (fun _ => (1 : Int)) (ckI 1 4) = some 1 := rfl
  have c2 : Option.map (fun _ => (2 : Int)) (ckI 2 4) = some 2 := rfl
  have c3 : Option.map (fun _ => (3 : Int)) (ckI 3 4) = some 3 := rfl
  have r0 : rdI [kd, o, a, b] 0 = some kd := rfl
  have r1 : rdI [kd, o, a, b] 1 = some o := rfl
  have r2 : rdI [kd, o, a, b] 2 = some a := rfl
  have r3 : rdI [kd, o, a, b] 3 = some b := rfl
  have h35 : (tabL.map rowR).length = 35 := rfl
  have hzv : ((v.1, v.2.1, v.2.2.1, ()) : V4T) = v := rfl
  have bn : ∀ {β : Type} (f : Int → Option β), (none : Option Int).bind f = none := fun _ => rfl
  simp only [c0, c1, c2, c3, r0, r1, r2, r3, Option.bind_some, hzv]
  by_cases h0 : kd = 0
  · rw [decide_eq_true h0, cond_true]
    have hM : ref09_May (((0 : Int), (0 : Int), (0 : Int), v, ()) : Ins) = some ((mayI ((0 : Int), (0 : Int), (0 : Int), v, ()), ()), ()) := refMay_ok (x := ((0 : Int), (0 : Int), (0 : Int), v, ())) (hv)
    have hY : law09_typeOf_faa (.inl (v, ())) = some (([80, 117, 115, 104], ()), ()) := rfl
    rcases by_hand (t := 0) (by omega) o a b hv with ⟨k, hk35, hk, hm, hd, hp⟩ | ⟨k, hk35, hk, hm, hd, hp⟩ | ⟨hm, hp⟩
    · have hp : code_Plain_f6b (.inl (v, ())) = some ((((0 : Int), (0 : Int), (0 : Int), v, ()), true, ()), ()) := hp
      have hk : (0 : Int) = (k : Int) := hk
      obtain rfl : k = 0 := by omega
      have hm : decide (mayI ((0 : Int), (0 : Int), (0 : Int), v, ()) = 0) = true := decide_eq_true hm
      have hd : decide (tyN (rowK 0).ty = [80, 117, 115, 104]) = true := hd
      have hc : Option.map (fun _ => (0 : Int)) (ckI (0 : Int) 35) = some (0 : Int) := rfl
      have hr : rdI (tabL.map rowR) (0 : Int) = some (rowR (rowK 0)) := rfl
      simp only [hp, hM, hm, hY, hd, hc, hr, table_is, h35, rowR, Option.map_some, Option.bind_some, gtrue, gfalse, cond_true, cond_false, Bool.not_true, Bool.not_false, Bool.and_self, decide_true, lives_ok]
    · have hp : code_Plain_f6b (.inl (v, ())) = some ((((0, 0, 0, (0, 0, 0, ()), ()) : Ins), false, ()), ()) := hp
      have hk : (0 : Int) = (k : Int) := hk
      obtain rfl : k = 0 := by omega
      have hm : decide (mayI ((0 : Int), (0 : Int), (0 : Int), v, ()) = 0) = true := decide_eq_true hm
      have hd : decide (tyN (rowK 0).ty = [80, 117, 115, 104]) = false := hd
      have hc : Option.map (fun _ => (0 : Int)) (ckI (0 : Int) 35) = some (0 : Int) := rfl
      have hr : rdI (tabL.map rowR) (0 : Int) = some (rowR (rowK 0)) := rfl
      simp only [hp, hM, hm, hY, hd, hc, hr, table_is, h35, rowR, Option.map_some, Option.bind_some, gtrue, gfalse, cond_true, cond_false, Bool.not_true, Bool.not_false, Bool.and_self, decide_true, lives_ok]
    · have hp : code_Plain_f6b (.inl (v, ())) = some ((((0, 0, 0, (0, 0, 0, ()), ()) : Ins), false, ()), ()) := hp
      have hm : decide (mayI ((0 : Int), (0 : Int), (0 : Int), v, ()) = 0) = false := hm
      simp only [hp, hM, hm, hY, bn, table_is, h35, rowR, Option.map_some, Option.bind_some, gtrue, gfalse, cond_true, cond_false, Bool.not_true, Bool.not_false, Bool.and_self, decide_true, lives_ok]
  rw [decide_eq_false h0, cond_false]
  by_cases h1 : kd = 1
  · rw [decide_eq_true h1, cond_true]
    have hM : ref09_May ((o, a, b, (0, 0, 0, ()), ()) : Ins) = some ((mayI (o, a, b, (0, 0, 0, ()), ()), ()), ()) := refMay_ok (x := (o, a, b, (0, 0, 0, ()), ())) (okZ)
    have hY : law09_typeOf_eb7 (.inl (o, a, b, ())) = some (([80, 108, 97, 99, 101], ()), ()) := rfl
    rcases by_hand (t := 1) (by omega) o a b hv with ⟨k, hk35, hk, hm, hd, hp⟩ | ⟨k, hk35, hk, hm, hd, hp⟩ | ⟨hm, hp⟩
    · have hp : code_Plain_f6b (.inr (.inl (o, a, b, ()))) = some (((o, a, b, (0, 0, 0, ()), ()), true, ()), ()) := hp
      have hk : o = (k : Int) := hk
      subst hk
      have hm : decide (mayI ((k : Int), a, b, (0, 0, 0, ()), ()) = 0) = true := decide_eq_true hm
      have hd : decide (tyN (rowK k).ty = [80, 108, 97, 99, 101]) = true := hd
      simp only [hp, hM, hm, hY, hd, ckk hk35, rowK_rd hk35, table_is, h35, rowR, Option.map_some, Option.bind_some, gtrue, gfalse, cond_true, cond_false, Bool.not_true, Bool.not_false, Bool.and_self, decide_true, lives_ok]
    · have hp : code_Plain_f6b (.inr (.inl (o, a, b, ()))) = some ((((0, 0, 0, (0, 0, 0, ()), ()) : Ins), false, ()), ()) := hp
      have hk : o = (k : Int) := hk
      subst hk
      have hm : decide (mayI ((k : Int), a, b, (0, 0, 0, ()), ()) = 0) = true := decide_eq_true hm
      have hd : decide (tyN (rowK k).ty = [80, 108, 97, 99, 101]) = false := hd
      simp only [hp, hM, hm, hY, hd, ckk hk35, rowK_rd hk35, table_is, h35, rowR, Option.map_some, Option.bind_some, gtrue, gfalse, cond_true, cond_false, Bool.not_true, Bool.not_false, Bool.and_self, decide_true, lives_ok]
    · have hp : code_Plain_f6b (.inr (.inl (o, a, b, ()))) = some ((((0, 0, 0, (0, 0, 0, ()), ()) : Ins), false, ()), ()) := hp
      have hm : decide (mayI (o, a, b, (0, 0, 0, ()), ()) = 0) = false := hm
      simp only [hp, hM, hm, hY, bn, table_is, h35, rowR, Option.map_some, Option.bind_some, gtrue, gfalse, cond_true, cond_false, Bool.not_true, Bool.not_false, Bool.and_self, decide_true, lives_ok]
  rw [decide_eq_false h1, cond_false]
  by_cases h2 : kd = 2
  · rw [decide_eq_true h2, cond_true]
    have hM : ref09_May ((o, a, (0 : Int), (0, 0, 0, ()), ()) : Ins) = some ((mayI (o, a, (0 : Int), (0, 0, 0, ()), ()), ()), ()) := refMay_ok (x := (o, a, (0 : Int), (0, 0, 0, ()), ())) (okZ)
    have hY : law09_typeOf_7b1 (.inl (o, a, ())) = some (([67, 101, 108, 108], ()), ()) := rfl
    rcases by_hand (t := 2) (by omega) o a b hv with ⟨k, hk35, hk, hm, hd, hp⟩ | ⟨k, hk35, hk, hm, hd, hp⟩ | ⟨hm, hp⟩
    · have hp : code_Plain_f6b (.inr (.inr (.inl (o, a, ())))) = some (((o, a, (0 : Int), (0, 0, 0, ()), ()), true, ()), ()) := hp
      have hk : o = (k : Int) := hk
      subst hk
      have hm : decide (mayI ((k : Int), a, (0 : Int), (0, 0, 0, ()), ()) = 0) = true := decide_eq_true hm
      have hd : decide (tyN (rowK k).ty = [67, 101, 108, 108]) = true := hd
      simp only [hp, hM, hm, hY, hd, ckk hk35, rowK_rd hk35, table_is, h35, rowR, Option.map_some, Option.bind_some, gtrue, gfalse, cond_true, cond_false, Bool.not_true, Bool.not_false, Bool.and_self, decide_true, lives_ok]
    · have hp : code_Plain_f6b (.inr (.inr (.inl (o, a, ())))) = some ((((0, 0, 0, (0, 0, 0, ()), ()) : Ins), false, ()), ()) := hp
      have hk : o = (k : Int) := hk
      subst hk
      have hm : decide (mayI ((k : Int), a, (0 : Int), (0, 0, 0, ()), ()) = 0) = true := decide_eq_true hm
      have hd : decide (tyN (rowK k).ty = [67, 101, 108, 108]) = false := hd
      simp only [hp, hM, hm, hY, hd, ckk hk35, rowK_rd hk35, table_is, h35, rowR, Option.map_some, Option.bind_some, gtrue, gfalse, cond_true, cond_false, Bool.not_true, Bool.not_false, Bool.and_self, decide_true, lives_ok]
    · have hp : code_Plain_f6b (.inr (.inr (.inl (o, a, ())))) = some ((((0, 0, 0, (0, 0, 0, ()), ()) : Ins), false, ()), ()) := hp
      have hm : decide (mayI (o, a, (0 : Int), (0, 0, 0, ()), ()) = 0) = false := hm
      simp only [hp, hM, hm, hY, bn, table_is, h35, rowR, Option.map_some, Option.bind_some, gtrue, gfalse, cond_true, cond_false, Bool.not_true, Bool.not_false, Bool.and_self, decide_true, lives_ok]
  rw [decide_eq_false h2, cond_false]
  by_cases h3 : kd = 3
  · rw [decide_eq_true h3, cond_true]
    have hM : ref09_May ((o, a, (0 : Int), (0, 0, 0, ()), ()) : Ins) = some ((mayI (o, a, (0 : Int), (0, 0, 0, ()), ()), ()), ()) := refMay_ok (x := (o, a, (0 : Int), (0, 0, 0, ()), ())) (okZ)
    have hY : law09_typeOf_7b1_b (.inl (o, a, ())) = some (([79, 110, 101], ()), ()) := rfl
    rcases by_hand (t := 3) (by omega) o a b hv with ⟨k, hk35, hk, hm, hd, hp⟩ | ⟨k, hk35, hk, hm, hd, hp⟩ | ⟨hm, hp⟩
    · have hp : code_Plain_f6b (.inr (.inr (.inr (.inl (o, a, ()))))) = some (((o, a, (0 : Int), (0, 0, 0, ()), ()), true, ()), ()) := hp
      have hk : o = (k : Int) := hk
      subst hk
      have hm : decide (mayI ((k : Int), a, (0 : Int), (0, 0, 0, ()), ()) = 0) = true := decide_eq_true hm
      have hd : decide (tyN (rowK k).ty = [79, 110, 101]) = true := hd
      simp only [hp, hM, hm, hY, hd, ckk hk35, rowK_rd hk35, table_is, h35, rowR, Option.map_some, Option.bind_some, gtrue, gfalse, cond_true, cond_false, Bool.not_true, Bool.not_false, Bool.and_self, decide_true, lives_ok]
    · have hp : code_Plain_f6b (.inr (.inr (.inr (.inl (o, a, ()))))) = some ((((0, 0, 0, (0, 0, 0, ()), ()) : Ins), false, ()), ()) := hp
      have hk : o = (k : Int) := hk
      subst hk
      have hm : decide (mayI ((k : Int), a, (0 : Int), (0, 0, 0, ()), ()) = 0) = true := decide_eq_true hm
      have hd : decide (tyN (rowK k).ty = [79, 110, 101]) = false := hd
      simp only [hp, hM, hm, hY, hd, ckk hk35, rowK_rd hk35, table_is, h35, rowR, Option.map_some, Option.bind_some, gtrue, gfalse, cond_true, cond_false, Bool.not_true, Bool.not_false, Bool.and_self, decide_true, lives_ok]
    · have hp : code_Plain_f6b (.inr (.inr (.inr (.inl (o, a, ()))))) = some ((((0, 0, 0, (0, 0, 0, ()), ()) : Ins), false, ()), ()) := hp
      have hm : decide (mayI (o, a, (0 : Int), (0, 0, 0, ()), ()) = 0) = false := hm
      simp only [hp, hM, hm, hY, bn, table_is, h35, rowR, Option.map_some, Option.bind_some, gtrue, gfalse, cond_true, cond_false, Bool.not_true, Bool.not_false, Bool.and_self, decide_true, lives_ok]
  rw [decide_eq_false h3, cond_false]
  by_cases h4 : kd = 4
  · rw [decide_eq_true h4, cond_true]
    have hM : ref09_May (((10 : Int), a, b, (0, 0, 0, ()), ()) : Ins) = some ((mayI ((10 : Int), a, b, (0, 0, 0, ()), ()), ()), ()) := refMay_ok (x := ((10 : Int), a, b, (0, 0, 0, ()), ())) (okZ)
    have hY : law09_typeOf_7b1_c (.inl (a, b, ())) = some (([80, 97, 114, 116], ()), ()) := rfl
    rcases by_hand (t := 4) (by omega) o a b hv with ⟨k, hk35, hk, hm, hd, hp⟩ | ⟨k, hk35, hk, hm, hd, hp⟩ | ⟨hm, hp⟩
    · have hp : code_Plain_f6b (.inr (.inr (.inr (.inr (.inl (a, b, ())))))) = some ((((10 : Int), a, b, (0, 0, 0, ()), ()), true, ()), ()) := hp
      have hk : (10 : Int) = (k : Int) := hk
      obtain rfl : k = 10 := by omega
      have hm : decide (mayI ((10 : Int), a, b, (0, 0, 0, ()), ()) = 0) = true := decide_eq_true hm
      have hd : decide (tyN (rowK 10).ty = [80, 97, 114, 116]) = true := hd
      have hc : Option.map (fun _ => (10 : Int)) (ckI (10 : Int) 35) = some (10 : Int) := rfl
      have hr : rdI (tabL.map rowR) (10 : Int) = some (rowR (rowK 10)) := rfl
      simp only [hp, hM, hm, hY, hd, hc, hr, table_is, h35, rowR, Option.map_some, Option.bind_some, gtrue, gfalse, cond_true, cond_false, Bool.not_true, Bool.not_false, Bool.and_self, decide_true, lives_ok]
    · have hp : code_Plain_f6b (.inr (.inr (.inr (.inr (.inl (a, b, ())))))) = some ((((0, 0, 0, (0, 0, 0, ()), ()) : Ins), false, ()), ()) := hp
      have hk : (10 : Int) = (k : Int) := hk
      obtain rfl : k = 10 := by omega
      have hm : decide (mayI ((10 : Int), a, b, (0, 0, 0, ()), ()) = 0) = true := decide_eq_true hm
      have hd : decide (tyN (rowK 10).ty = [80, 97, 114, 116]) = false := hd
      have hc : Option.map (fun _ => (10 : Int)) (ckI (10 : Int) 35) = some (10 : Int) := rfl
      have hr : rdI (tabL.map rowR) (10 : Int) = some (rowR (rowK 10)) := rfl
      simp only [hp, hM, hm, hY, hd, hc, hr, table_is, h35, rowR, Option.map_some, Option.bind_some, gtrue, gfalse, cond_true, cond_false, Bool.not_true, Bool.not_false, Bool.and_self, decide_true, lives_ok]
    · have hp : code_Plain_f6b (.inr (.inr (.inr (.inr (.inl (a, b, ())))))) = some ((((0, 0, 0, (0, 0, 0, ()), ()) : Ins), false, ()), ()) := hp
      have hm : decide (mayI ((10 : Int), a, b, (0, 0, 0, ()), ()) = 0) = false := hm
      simp only [hp, hM, hm, hY, bn, table_is, h35, rowR, Option.map_some, Option.bind_some, gtrue, gfalse, cond_true, cond_false, Bool.not_true, Bool.not_false, Bool.and_self, decide_true, lives_ok]
  rw [decide_eq_false h4, cond_false]
  by_cases h5 : kd = 5
  · rw [decide_eq_true h5, cond_true]
    have hM : ref09_May ((o, a, b, (0, 0, 0, ()), ()) : Ins) = some ((mayI (o, a, b, (0, 0, 0, ()), ()), ()), ()) := refMay_ok (x := (o, a, b, (0, 0, 0, ()), ())) (okZ)
    have hY : law09_typeOf_eb7_b (.inl (o, a, b, ())) = some (([72, 101, 97, 100, 115], ()), ()) := rfl
    rcases by_hand (t := 5) (by omega) o a b hv with ⟨k, hk35, hk, hm, hd, hp⟩ | ⟨k, hk35, hk, hm, hd, hp⟩ | ⟨hm, hp⟩
    · have hp : code_Plain_f6b (.inr (.inr (.inr (.inr (.inr (.inl (o, a, b, ()))))))) = some (((o, a, b, (0, 0, 0, ()), ()), true, ()), ()) := hp
      have hk : o = (k : Int) := hk
      subst hk
      have hm : decide (mayI ((k : Int), a, b, (0, 0, 0, ()), ()) = 0) = true := decide_eq_true hm
      have hd : decide (tyN (rowK k).ty = [72, 101, 97, 100, 115]) = true := hd
      simp only [hp, hM, hm, hY, hd, ckk hk35, rowK_rd hk35, table_is, h35, rowR, Option.map_some, Option.bind_some, gtrue, gfalse, cond_true, cond_false, Bool.not_true, Bool.not_false, Bool.and_self, decide_true, lives_ok]
    · have hp : code_Plain_f6b (.inr (.inr (.inr (.inr (.inr (.inl (o, a, b, ()))))))) = some ((((0, 0, 0, (0, 0, 0, ()), ()) : Ins), false, ()), ()) := hp
      have hk : o = (k : Int) := hk
      subst hk
      have hm : decide (mayI ((k : Int), a, b, (0, 0, 0, ()), ()) = 0) = true := decide_eq_true hm
      have hd : decide (tyN (rowK k).ty = [72, 101, 97, 100, 115]) = false := hd
      simp only [hp, hM, hm, hY, hd, ckk hk35, rowK_rd hk35, table_is, h35, rowR, Option.map_some, Option.bind_some, gtrue, gfalse, cond_true, cond_false, Bool.not_true, Bool.not_false, Bool.and_self, decide_true, lives_ok]
    · have hp : code_Plain_f6b (.inr (.inr (.inr (.inr (.inr (.inl (o, a, b, ()))))))) = some ((((0, 0, 0, (0, 0, 0, ()), ()) : Ins), false, ()), ()) := hp
      have hm : decide (mayI (o, a, b, (0, 0, 0, ()), ()) = 0) = false := hm
      simp only [hp, hM, hm, hY, bn, table_is, h35, rowR, Option.map_some, Option.bind_some, gtrue, gfalse, cond_true, cond_false, Bool.not_true, Bool.not_false, Bool.and_self, decide_true, lives_ok]
  rw [decide_eq_false h5, cond_false]
  by_cases h6 : kd = 6
  · rw [decide_eq_true h6, cond_true]
    have hM : ref09_May (((33 : Int), a, b, (0, 0, 0, ()), ()) : Ins) = some ((mayI ((33 : Int), a, b, (0, 0, 0, ()), ()), ()), ()) := refMay_ok (x := ((33 : Int), a, b, (0, 0, 0, ()), ())) (okZ)
    have hY : law09_typeOf_7b1_d (.inl (a, b, ())) = some (([71, 111, 110, 101], ()), ()) := rfl
    rcases by_hand (t := 6) (by omega) o a b hv with ⟨k, hk35, hk, hm, hd, hp⟩ | ⟨k, hk35, hk, hm, hd, hp⟩ | ⟨hm, hp⟩
    · have hp : code_Plain_f6b (.inr (.inr (.inr (.inr (.inr (.inr (.inl (a, b, ())))))))) = some ((((33 : Int), a, b, (0, 0, 0, ()), ()), true, ()), ()) := hp
      have hk : (33 : Int) = (k : Int) := hk
      obtain rfl : k = 33 := by omega
      have hm : decide (mayI ((33 : Int), a, b, (0, 0, 0, ()), ()) = 0) = true := decide_eq_true hm
      have hd : decide (tyN (rowK 33).ty = [71, 111, 110, 101]) = true := hd
      have hc : Option.map (fun _ => (33 : Int)) (ckI (33 : Int) 35) = some (33 : Int) := rfl
      have hr : rdI (tabL.map rowR) (33 : Int) = some (rowR (rowK 33)) := rfl
      simp only [hp, hM, hm, hY, hd, hc, hr, table_is, h35, rowR, Option.map_some, Option.bind_some, gtrue, gfalse, cond_true, cond_false, Bool.not_true, Bool.not_false, Bool.and_self, decide_true, lives_ok]
    · have hp : code_Plain_f6b (.inr (.inr (.inr (.inr (.inr (.inr (.inl (a, b, ())))))))) = some ((((0, 0, 0, (0, 0, 0, ()), ()) : Ins), false, ()), ()) := hp
      have hk : (33 : Int) = (k : Int) := hk
      obtain rfl : k = 33 := by omega
      have hm : decide (mayI ((33 : Int), a, b, (0, 0, 0, ()), ()) = 0) = true := decide_eq_true hm
      have hd : decide (tyN (rowK 33).ty = [71, 111, 110, 101]) = false := hd
      have hc : Option.map (fun _ => (33 : Int)) (ckI (33 : Int) 35) = some (33 : Int) := rfl
      have hr : rdI (tabL.map rowR) (33 : Int) = some (rowR (rowK 33)) := rfl
      simp only [hp, hM, hm, hY, hd, hc, hr, table_is, h35, rowR, Option.map_some, Option.bind_some, gtrue, gfalse, cond_true, cond_false, Bool.not_true, Bool.not_false, Bool.and_self, decide_true, lives_ok]
    · have hp : code_Plain_f6b (.inr (.inr (.inr (.inr (.inr (.inr (.inl (a, b, ())))))))) = some ((((0, 0, 0, (0, 0, 0, ()), ()) : Ins), false, ()), ()) := hp
      have hm : decide (mayI ((33 : Int), a, b, (0, 0, 0, ()), ()) = 0) = false := hm
      simp only [hp, hM, hm, hY, bn, table_is, h35, rowR, Option.map_some, Option.bind_some, gtrue, gfalse, cond_true, cond_false, Bool.not_true, Bool.not_false, Bool.and_self, decide_true, lives_ok]
  rw [decide_eq_false h6, cond_false]
  have hM : ref09_May ((o, (0 : Int), (0 : Int), (0, 0, 0, ()), ()) : Ins) = some ((mayI (o, (0 : Int), (0 : Int), (0, 0, 0, ()), ()), ()), ()) := refMay_ok (x := (o, (0 : Int), (0 : Int), (0, 0, 0, ()), ())) (okZ)
  have hY : law09_typeOf_c29 (.inl (o, ())) = some (([84, 119, 111], ()), ()) := rfl
  rcases by_hand (t := 7) (by omega) o a b hv with ⟨k, hk35, hk, hm, hd, hp⟩ | ⟨k, hk35, hk, hm, hd, hp⟩ | ⟨hm, hp⟩
  · have hp : code_Plain_f6b (.inr (.inr (.inr (.inr (.inr (.inr (.inr (.inl (o, ()))))))))) = some (((o, (0 : Int), (0 : Int), (0, 0, 0, ()), ()), true, ()), ()) := hp
    have hk : o = (k : Int) := hk
    subst hk
    have hm : decide (mayI ((k : Int), (0 : Int), (0 : Int), (0, 0, 0, ()), ()) = 0) = true := decide_eq_true hm
    have hd : decide (tyN (rowK k).ty = [84, 119, 111]) = true := hd
    simp only [hp, hM, hm, hY, hd, ckk hk35, rowK_rd hk35, table_is, h35, rowR, Option.map_some, Option.bind_some, gtrue, gfalse, cond_true, cond_false, Bool.not_true, Bool.not_false, Bool.and_self, decide_true, lives_ok]
  · have hp : code_Plain_f6b (.inr (.inr (.inr (.inr (.inr (.inr (.inr (.inl (o, ()))))))))) = some ((((0, 0, 0, (0, 0, 0, ()), ()) : Ins), false, ()), ()) := hp
    have hk : o = (k : Int) := hk
    subst hk
    have hm : decide (mayI ((k : Int), (0 : Int), (0 : Int), (0, 0, 0, ()), ()) = 0) = true := decide_eq_true hm
    have hd : decide (tyN (rowK k).ty = [84, 119, 111]) = false := hd
    simp only [hp, hM, hm, hY, hd, ckk hk35, rowK_rd hk35, table_is, h35, rowR, Option.map_some, Option.bind_some, gtrue, gfalse, cond_true, cond_false, Bool.not_true, Bool.not_false, Bool.and_self, decide_true, lives_ok]
  · have hp : code_Plain_f6b (.inr (.inr (.inr (.inr (.inr (.inr (.inr (.inl (o, ()))))))))) = some ((((0, 0, 0, (0, 0, 0, ()), ()) : Ins), false, ()), ()) := hp
    have hm : decide (mayI (o, (0 : Int), (0 : Int), (0, 0, 0, ()), ()) = 0) = false := hm
    simp only [hp, hM, hm, hY, bn, table_is, h35, rowR, Option.map_some, Option.bind_some, gtrue, gfalse, cond_true, cond_false, Bool.not_true, Bool.not_false, Bool.and_self, decide_true, lives_ok]

end Go.Proofs.Ytgaeodfbejbbeaa
