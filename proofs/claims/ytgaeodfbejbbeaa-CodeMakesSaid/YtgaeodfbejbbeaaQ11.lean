/- The functions of this seat, and the laws as plain Lean. -/
import Derived.Test.YtgaeodfbejbbeaaQ10

set_option linter.unusedSimpArgs false
set_option linter.unusedVariables false

namespace Go.Proofs.Ytgaeodfbejbbeaa
open Go Go.Pv Go.Proofs Go.L
set_option maxRecDepth 100000

theorem lives_ok : law09_lives = some ((true, ()), ()) := by
  unfold law09_lives
  have hv : okV ((10, 7, 0, (0, 0, 0, ()), ()) : Ins).2.2.2.1 := ⟨rfl, rfl⟩
  have e7 : dtx 7 = [55] := by
    unfold dtx
    rw [if_neg (by decide)]
    show text 10 7 = _
    unfold text
    rw [D_eq (by omega)]
    rfl
  have e0 : dtx 0 = [48] := by
    unfold dtx
    rw [if_neg (by decide)]
    show text 10 0 = _
    unfold text
    rw [D_eq (by omega)]
    rfl
  have ht : itx (10, 7, 0, (0, 0, 0, ()), ()) = [115, 108, 105, 99, 101, 32, 55, 32, 48] := by
    unfold itx
    show (if knownB 10 = true then (rowK 10).name ++ (if (10 : Int) = 0 then [32] ++ vtxt (0, 0, 0, ()) else if (rowK 10).many = 0 then [] else if (rowK 10).many = 1 then [32] ++ dtx 7 else [32] ++ dtx 7 ++ ([32] ++ dtx 0)) else []) = _
    rw [e7, e0]
    rfl
  rw [show code_Effect 10 = some ((1, 1, ()), ()) from Effect_ok (k := 10) (by omega), Option.bind_some, Text_ok hv, ht, Option.bind_some]
  rfl

theorem back_ok {x : Ins} (hv : okV x.2.2.2.1) : law09_CodeBack x = some ((true, ()), ()) := by
  unfold law09_CodeBack
  have hz : ((x.1, x.2.1, x.2.2.1, (x.2.2.2.1.1, x.2.2.2.1.2.1, x.2.2.2.1.2.2.1, ()), ()) : Ins) = x := rfl
  rw [show code_Plain_127 () = some ((insZ, false, ()), ()) from rfl, Option.bind_some]
  simp only [gsome]
  rw [show (bif false then true else (!(decide ((bif !false then insZ else (0, 0, 0, (0, 0, 0, ()), ())).1 = 0) && (decide ((bif !false then insZ else (0, 0, 0, (0, 0, 0, ()), ())).2.1 = 0) && (decide ((bif !false then insZ else (0, 0, 0, (0, 0, 0, ()), ())).2.2.1 = 0) && (decide ((bif !false then insZ else (0, 0, 0, (0, 0, 0, ()), ())).2.2.2.1.1 = 0) && (decide ((bif !false then insZ else (0, 0, 0, (0, 0, 0, ()), ())).2.2.2.1.2.1 = 0) && decide ((bif !false then insZ else (0, 0, 0, (0, 0, 0, ()), ())).2.2.2.1.2.2.1 = 0)))))) : Bool)) = false from rfl, cond_false, hz, make_ok hv, Option.bind_some]
  by_cases hm : mayI x = 0
  · rw [if_pos hm]
    dsimp only
    rw [decide_eq_true rfl, Bool.not_true, cond_false]
    obtain ⟨k, hk, hk35⟩ := known_of (known_may hm)
    obtain ⟨n, a, b, v, _⟩ := x
    dsimp only at hk
    subst hk
    have hb := back_eq hm
    dsimp only at hv
    rw [Int.toNat_natCast, Plain_ok (ty_lt hk35) _ _ _ hv, hb, if_pos ⟨hm, by rw [Int.toNat_natCast]⟩, Option.bind_some]
    simp only [cond_true, decide_true, Bool.and_self, gtrue, lives_ok, Option.bind_some]
  · rw [if_neg hm]
    dsimp only
    rw [decide_eq_false hm, Bool.not_false, cond_true, lives_ok]
    rfl

end Go.Proofs.Ytgaeodfbejbbeaa

namespace Go.Proofs.Ytgaeodfbejbbeaa
open Go Go.Pv Go.Proofs Go.L
set_option maxRecDepth 100000

def dst (l : List Ins) (w0 : Int) (i : Nat) : ((List Ins) × (List Stp) × Int × Int × Int × Int × Int × Unit) × Unit :=
  (((l, (allR l).1, (allR l).2.1, (allR l).2.2.1, ((i + ((l.take 64).drop i).findIdx badI : Nat) : Int), (if i + ((l.take 64).drop i).findIdx badI < min l.length 64 then mayI (l.getD (i + ((l.take 64).drop i).findIdx badI) insZ) else w0), (i : Int) - 1, ()), ()) : ((List Ins) × (List Stp) × Int × Int × Int × Int × Int × Unit) × Unit)

end Go.Proofs.Ytgaeodfbejbbeaa

namespace Go.Proofs.Ytgaeodfbejbbeaa
open Go Go.Pv Go.Proofs Go.L
set_option maxRecDepth 100000

theorem ckk {k : Nat} (h : k < 35) : Option.map (fun _ => (k : Int)) (ckI (k : Int) 35) = some (k : Int) := by
  unfold ckI
  rw [if_pos ⟨by omega, by omega⟩]; rfl
end Go.Proofs.Ytgaeodfbejbbeaa

namespace Go.Proofs.Ytgaeodfbejbbeaa
open Go Go.Pv Go.Proofs Go.L
set_option maxRecDepth 100000

/-- a step's operation, as the law asks for it -/
noncomputable def opS (s : Stp) : Option ((Int × Unit) × Unit) := match s with | .inl y => code_Push_Op y | .inr y => match y with | .inl y => code_Place_Op y | .inr y => match y with | .inl y => code_Cell_Op y | .inr y => match y with | .inl y => code_One_Op y | .inr y => match y with | .inl y => code_Part_Op y | .inr y => match y with | .inl y => code_Heads_Op y | .inr y => match y with | .inl y => code_Gone_Op y | .inr y => match y with | .inl y => code_Two_Op y | .inr y => match y with | .inl y => code_Slot_Op y | .inr y => match y with | .inl y => code_Jump_Op y | .inr y => match y with | .inl y => code_Stop_Op y | .inr y => none

theorem opS_ok {t : Nat} (h : t < 11) (o a b : Int) (v : V4T) : opS (mkS t o a b v) = some (((plS t o a b v).1, ()), ()) := by
  rcases ops11 h with rfl | rfl | rfl | rfl | rfl | rfl | rfl | rfl | rfl | rfl | rfl <;> rfl

theorem makes_eq (x_0 : Ins) : law09_CodeMakes x_0 = (
    (ref09_May (x_0.1, x_0.2.1, x_0.2.2.1, (x_0.2.2.2.1.1, x_0.2.2.2.1.2.1, x_0.2.2.2.1.2.2.1, ()), ())).bind fun r_1 =>
    (code_Make (x_0.1, x_0.2.1, x_0.2.2.1, (x_0.2.2.2.1.1, x_0.2.2.2.1.2.1, x_0.2.2.2.1.2.2.1, ()), ())).bind fun r_2 =>
    (code_May (x_0.1, x_0.2.1, x_0.2.2.1, (x_0.2.2.2.1.1, x_0.2.2.2.1.2.1, x_0.2.2.2.1.2.2.1, ()), ())).bind fun r_3 =>
    let t16_4 : Bool := !decide (r_3.1.1 = r_1.1.1)
    guardR (!t16_4) (some ()) () fun _ =>
    guardR (!t16_4) (some ()) () fun _ =>
    guardR (!t16_4) (some (!decide (r_2.1.2.1 = r_1.1.1))) false fun v_5 =>
    bif (bif t16_4 then true else v_5) then
      some ((false, ()), ())
    else
    bif (!decide (r_1.1.1 = 0)) then
      let t25_8 : Bool := isNil11 r_2.1.1
      guardR t25_8 law09_lives ((false, ()), ()) fun r_9 =>
      some (((bif t25_8 then r_9.1.1 else false), ()), ())
    else
    bif (isNil11 r_2.1.1) then
      some ((false, ()), ())
    else
    (law09_typeOf_f6b r_2.1.1).bind fun r_12 =>
    ref09_Table.bind fun r_13 =>
    (Option.map (fun _ => x_0.1) (ckI x_0.1 r_13.1.1.length)).bind fun v_14 =>
    ((((((((rdI r_13.1.1 v_14).map (·.2)).map (·.2)).map (·.2)).map (·.2)).map (·.2)).map (·.2)).map (·.1)).bind fun v_15 =>
    let t39_16 : Bool := decide (r_12.1.1 = v_15)
    guardR t39_16 (some ()) () fun _ =>
    guardR t39_16 (opS r_2.1.1) ((0, ()), ()) fun r_17 =>
    guardR t39_16 (some ()) () fun _ =>
    guardR t39_16 (some x_0.1) 0 fun v_18 =>
    guardR t39_16 (some (decide (r_17.1.1 = v_18))) false fun v_19 =>
    let t46_20 : Bool := bif t39_16 then v_19 else false
    guardR t46_20 law09_lives ((false, ()), ()) fun r_21 =>
    some (((bif t46_20 then r_21.1.1 else false), ()), ())) := rfl

theorem typeOf_ok {t : Nat} (h : t < 11) (o a b : Int) (v : V4T) : law09_typeOf_f6b (mkS t o a b v) = some ((tyN t, ()), ()) := by
  rcases ops11 h with rfl | rfl | rfl | rfl | rfl | rfl | rfl | rfl | rfl | rfl | rfl <;> rfl

theorem makes_ok {x : Ins} (hv : okV x.2.2.2.1) : law09_CodeMakes x = some ((true, ()), ()) := by
  rw [makes_eq]
  have hz : ((x.1, x.2.1, x.2.2.1, (x.2.2.2.1.1, x.2.2.2.1.2.1, x.2.2.2.1.2.2.1, ()), ()) : Ins) = x := rfl
  rw [hz, refMay_ok hv, Option.bind_some, make_ok hv, Option.bind_some, codeMay_ok hv, Option.bind_some]
  by_cases hm : mayI x = 0
  · rw [if_pos hm]
    obtain ⟨k, hk, hk35⟩ := known_of (known_may hm)
    obtain ⟨n, a, b, v, _⟩ := x
    have hk : n = (k : Int) := hk
    subst hk
    have hb := back_eq hm
    have ht := ty_lt hk35
    have h35 : (tabL.map rowR).length = 35 := rfl
    have ho := opS_ok ht (k : Int) a b v
    rw [hb] at ho
    change opS _ = some (((k : Int), ()), ()) at ho
    simp only [Int.toNat_natCast, hm, decide_true, Bool.not_true, Bool.not_false, gtrue, Option.bind_some, cond_false, cond_true, not_nil ht, typeOf_ok ht, table_is, h35, ckk hk35, rowK_rd hk35, rowR, Option.map_some, ho, lives_ok]
  · rw [if_neg hm]
    have hn : isNil11 nilS = true := rfl
    simp only [decide_true, decide_eq_false hm, Bool.not_true, Bool.not_false, gtrue, gfalse, Option.bind_some, cond_false, cond_true, hn, lives_ok]

end Go.Proofs.Ytgaeodfbejbbeaa
