/- The functions that the statements reach as plain Lean, and what they compute. -/
import Derived.Test.YtkpiocglghnnhaaDoorQ5

set_option linter.unusedSimpArgs false
set_option linter.unusedVariables false

namespace Go.L
open Go Go.Pv
set_option maxRecDepth 100000

def getAlt0 {a : Type} {b : Type} : a ⊕ b → Option a := fun x => match x with | .inl y => some y | .inr _ => none
def isNil1 {a : Type} : a ⊕ (Unit) → Bool := fun x => match x with | .inl _ => false | .inr y => (fun _ => true) y
noncomputable abbrev bits_Add64 := add64F

noncomputable abbrev bits_Sub64 := sub64F

noncomputable def bits_Len64 (x_0 : Int) : Option ((Int × Unit) × (Unit)) :=
 bif (decide (x_0 ≥ 4294967296)) then
  let t6_2 : Int := x_0.fdiv (2 ^ 32)
  bif (decide (t6_2 ≥ 65536)) then
   let t10_4 : Int := t6_2.fdiv (2 ^ 16)
   let t12_5 : Int := IntKind.i64.wrap (32 + 16)
   bif (decide (t10_4 ≥ 256)) then
    (rdI [0, 1, 2, 2, 3, 3, 3, 3, 4, 4, 4, 4, 4, 4, 4, 4, 5, 5, 5, 5, 5, 5, 5, 5, 5, 5, 5, 5, 5, 5, 5, 5, 6, 6, 6, 6, 6, 6, 6, 6, 6, 6, 6, 6, 6, 6, 6, 6, 6, 6, 6, 6, 6, 6, 6, 6, 6, 6, 6, 6, 6, 6, 6, 6, 7, 7, 7, 7, 7, 7, 7, 7, 7, 7, 7, 7, 7, 7, 7, 7, 7, 7, 7, 7, 7, 7, 7, 7, 7, 7, 7, 7, 7, 7, 7, 7, 7, 7, 7, 7, 7, 7, 7, 7, 7, 7, 7, 7, 7, 7, 7, 7, 7, 7, 7, 7, 7, 7, 7, 7, 7, 7, 7, 7, 7, 7, 7, 7, 8, 8, 8, 8, 8, 8, 8, 8, 8, 8, 8, 8, 8, 8, 8, 8, 8, 8, 8, 8, 8, 8, 8, 8, 8, 8, 8, 8, 8, 8, 8, 8, 8, 8, 8, 8, 8, 8, 8, 8, 8, 8, 8, 8, 8, 8, 8, 8, 8, 8, 8, 8, 8, 8, 8, 8, 8, 8, 8, 8, 8, 8, 8, 8, 8, 8, 8, 8, 8, 8, 8, 8, 8, 8, 8, 8, 8, 8, 8, 8, 8, 8, 8, 8, 8, 8, 8, 8, 8, 8, 8, 8, 8, 8, 8, 8, 8, 8, 8, 8, 8, 8, 8, 8, 8, 8, 8, 8, 8, 8, 8, 8, 8, 8, 8, 8, 8, 8, 8, 8, 8, 8, 8, 8, 8, 8, 8, 8] (IntKind.u8.wrap (t10_4.fdiv (2 ^ 8)))).bind fun v_10 =>
    some (((IntKind.i64.wrap ((IntKind.i64.wrap (t12_5 + 8)) + (IntKind.i64.wrap v_10))), ()), ())
   else
   (rdI [0, 1, 2, 2, 3, 3, 3, 3, 4, 4, 4, 4, 4, 4, 4, 4, 5, 5, 5, 5, 5, 5, 5, 5, 5, 5, 5, 5, 5, 5, 5, 5, 6, 6, 6, 6, 6, 6, 6, 6, 6, 6, 6, 6, 6, 6, 6, 6, 6, 6, 6, 6, 6, 6, 6, 6, 6, 6, 6, 6, 6, 6, 6, 6, 7, 7, 7, 7, 7, 7, 7, 7, 7, 7, 7, 7, 7, 7, 7, 7, 7, 7, 7, 7, 7, 7, 7, 7, 7, 7, 7, 7, 7, 7, 7, 7, 7, 7, 7, 7, 7, 7, 7, 7, 7, 7, 7, 7, 7, 7, 7, 7, 7, 7, 7, 7, 7, 7, 7, 7, 7, 7, 7, 7, 7, 7, 7, 7, 8, 8, 8, 8, 8, 8, 8, 8, 8, 8, 8, 8, 8, 8, 8, 8, 8, 8, 8, 8, 8, 8, 8, 8, 8, 8, 8, 8, 8, 8, 8, 8, 8, 8, 8, 8, 8, 8, 8, 8, 8, 8, 8, 8, 8, 8, 8, 8, 8, 8, 8, 8, 8, 8, 8, 8, 8, 8, 8, 8, 8, 8, 8, 8, 8, 8, 8, 8, 8, 8, 8, 8, 8, 8, 8, 8, 8, 8, 8, 8, 8, 8, 8, 8, 8, 8, 8, 8, 8, 8, 8, 8, 8, 8, 8, 8, 8, 8, 8, 8, 8, 8, 8, 8, 8, 8, 8, 8, 8, 8, 8, 8, 8, 8, 8, 8, 8, 8, 8, 8, 8, 8, 8, 8, 8, 8, 8, 8] (IntKind.u8.wrap t10_4)).bind fun v_14 =>
   some (((IntKind.i64.wrap (t12_5 + (IntKind.i64.wrap v_14))), ()), ())
  else
  bif (decide (t6_2 ≥ 256)) then
   (rdI [0, 1, 2, 2, 3, 3, 3, 3, 4, 4, 4, 4, 4, 4, 4, 4, 5, 5, 5, 5, 5, 5, 5, 5, 5, 5, 5, 5, 5, 5, 5, 5, 6, 6, 6, 6, 6, 6, 6, 6, 6, 6, 6, 6, 6, 6, 6, 6, 6, 6, 6, 6, 6, 6, 6, 6, 6, 6, 6, 6, 6, 6, 6, 6, 7, 7, 7, 7, 7, 7, 7, 7, 7, 7, 7, 7, 7, 7, 7, 7, 7, 7, 7, 7, 7, 7, 7, 7, 7, 7, 7, 7, 7, 7, 7, 7, 7, 7, 7, 7, 7, 7, 7, 7, 7, 7, 7, 7, 7, 7, 7, 7, 7, 7, 7, 7, 7, 7, 7, 7, 7, 7, 7, 7, 7, 7, 7, 7, 8, 8, 8, 8, 8, 8, 8, 8, 8, 8, 8, 8, 8, 8, 8, 8, 8, 8, 8, 8, 8, 8, 8, 8, 8, 8, 8, 8, 8, 8, 8, 8, 8, 8, 8, 8, 8, 8, 8, 8, 8, 8, 8, 8, 8, 8, 8, 8, 8, 8, 8, 8, 8, 8, 8, 8, 8, 8, 8, 8, 8, 8, 8, 8, 8, 8, 8, 8, 8, 8, 8, 8, 8, 8, 8, 8, 8, 8, 8, 8, 8, 8, 8, 8, 8, 8, 8, 8, 8, 8, 8, 8, 8, 8, 8, 8, 8, 8, 8, 8, 8, 8, 8, 8, 8, 8, 8, 8, 8, 8, 8, 8, 8, 8, 8, 8, 8, 8, 8, 8, 8, 8, 8, 8, 8, 8, 8, 8] (IntKind.u8.wrap (t6_2.fdiv (2 ^ 8)))).bind fun v_21 =>
   some (((IntKind.i64.wrap ((IntKind.i64.wrap (32 + 8)) + (IntKind.i64.wrap v_21))), ()), ())
  else
  (rdI [0, 1, 2, 2, 3, 3, 3, 3, 4, 4, 4, 4, 4, 4, 4, 4, 5, 5, 5, 5, 5, 5, 5, 5, 5, 5, 5, 5, 5, 5, 5, 5, 6, 6, 6, 6, 6, 6, 6, 6, 6, 6, 6, 6, 6, 6, 6, 6, 6, 6, 6, 6, 6, 6, 6, 6, 6, 6, 6, 6, 6, 6, 6, 6, 7, 7, 7, 7, 7, 7, 7, 7, 7, 7, 7, 7, 7, 7, 7, 7, 7, 7, 7, 7, 7, 7, 7, 7, 7, 7, 7, 7, 7, 7, 7, 7, 7, 7, 7, 7, 7, 7, 7, 7, 7, 7, 7, 7, 7, 7, 7, 7, 7, 7, 7, 7, 7, 7, 7, 7, 7, 7, 7, 7, 7, 7, 7, 7, 8, 8, 8, 8, 8, 8, 8, 8, 8, 8, 8, 8, 8, 8, 8, 8, 8, 8, 8, 8, 8, 8, 8, 8, 8, 8, 8, 8, 8, 8, 8, 8, 8, 8, 8, 8, 8, 8, 8, 8, 8, 8, 8, 8, 8, 8, 8, 8, 8, 8, 8, 8, 8, 8, 8, 8, 8, 8, 8, 8, 8, 8, 8, 8, 8, 8, 8, 8, 8, 8, 8, 8, 8, 8, 8, 8, 8, 8, 8, 8, 8, 8, 8, 8, 8, 8, 8, 8, 8, 8, 8, 8, 8, 8, 8, 8, 8, 8, 8, 8, 8, 8, 8, 8, 8, 8, 8, 8, 8, 8, 8, 8, 8, 8, 8, 8, 8, 8, 8, 8, 8, 8, 8, 8, 8, 8, 8, 8] (IntKind.u8.wrap t6_2)).bind fun v_25 =>
  some (((IntKind.i64.wrap (32 + (IntKind.i64.wrap v_25))), ()), ())
 else
 bif (decide (x_0 ≥ 65536)) then
  let t10_29 : Int := x_0.fdiv (2 ^ 16)
  let t12_30 : Int := IntKind.i64.wrap (0 + 16)
  bif (decide (t10_29 ≥ 256)) then
   (rdI [0, 1, 2, 2, 3, 3, 3, 3, 4, 4, 4, 4, 4, 4, 4, 4, 5, 5, 5, 5, 5, 5, 5, 5, 5, 5, 5, 5, 5, 5, 5, 5, 6, 6, 6, 6, 6, 6, 6, 6, 6, 6, 6, 6, 6, 6, 6, 6, 6, 6, 6, 6, 6, 6, 6, 6, 6, 6, 6, 6, 6, 6, 6, 6, 7, 7, 7, 7, 7, 7, 7, 7, 7, 7, 7, 7, 7, 7, 7, 7, 7, 7, 7, 7, 7, 7, 7, 7, 7, 7, 7, 7, 7, 7, 7, 7, 7, 7, 7, 7, 7, 7, 7, 7, 7, 7, 7, 7, 7, 7, 7, 7, 7, 7, 7, 7, 7, 7, 7, 7, 7, 7, 7, 7, 7, 7, 7, 7, 8, 8, 8, 8, 8, 8, 8, 8, 8, 8, 8, 8, 8, 8, 8, 8, 8, 8, 8, 8, 8, 8, 8, 8, 8, 8, 8, 8, 8, 8, 8, 8, 8, 8, 8, 8, 8, 8, 8, 8, 8, 8, 8, 8, 8, 8, 8, 8, 8, 8, 8, 8, 8, 8, 8, 8, 8, 8, 8, 8, 8, 8, 8, 8, 8, 8, 8, 8, 8, 8, 8, 8, 8, 8, 8, 8, 8, 8, 8, 8, 8, 8, 8, 8, 8, 8, 8, 8, 8, 8, 8, 8, 8, 8, 8, 8, 8, 8, 8, 8, 8, 8, 8, 8, 8, 8, 8, 8, 8, 8, 8, 8, 8, 8, 8, 8, 8, 8, 8, 8, 8, 8, 8, 8, 8, 8, 8, 8] (IntKind.u8.wrap (t10_29.fdiv (2 ^ 8)))).bind fun v_35 =>
   some (((IntKind.i64.wrap ((IntKind.i64.wrap (t12_30 + 8)) + (IntKind.i64.wrap v_35))), ()), ())
  else
  (rdI [0, 1, 2, 2, 3, 3, 3, 3, 4, 4, 4, 4, 4, 4, 4, 4, 5, 5, 5, 5, 5, 5, 5, 5, 5, 5, 5, 5, 5, 5, 5, 5, 6, 6, 6, 6, 6, 6, 6, 6, 6, 6, 6, 6, 6, 6, 6, 6, 6, 6, 6, 6, 6, 6, 6, 6, 6, 6, 6, 6, 6, 6, 6, 6, 7, 7, 7, 7, 7, 7, 7, 7, 7, 7, 7, 7, 7, 7, 7, 7, 7, 7, 7, 7, 7, 7, 7, 7, 7, 7, 7, 7, 7, 7, 7, 7, 7, 7, 7, 7, 7, 7, 7, 7, 7, 7, 7, 7, 7, 7, 7, 7, 7, 7, 7, 7, 7, 7, 7, 7, 7, 7, 7, 7, 7, 7, 7, 7, 8, 8, 8, 8, 8, 8, 8, 8, 8, 8, 8, 8, 8, 8, 8, 8, 8, 8, 8, 8, 8, 8, 8, 8, 8, 8, 8, 8, 8, 8, 8, 8, 8, 8, 8, 8, 8, 8, 8, 8, 8, 8, 8, 8, 8, 8, 8, 8, 8, 8, 8, 8, 8, 8, 8, 8, 8, 8, 8, 8, 8, 8, 8, 8, 8, 8, 8, 8, 8, 8, 8, 8, 8, 8, 8, 8, 8, 8, 8, 8, 8, 8, 8, 8, 8, 8, 8, 8, 8, 8, 8, 8, 8, 8, 8, 8, 8, 8, 8, 8, 8, 8, 8, 8, 8, 8, 8, 8, 8, 8, 8, 8, 8, 8, 8, 8, 8, 8, 8, 8, 8, 8, 8, 8, 8, 8, 8, 8] (IntKind.u8.wrap t10_29)).bind fun v_39 =>
  some (((IntKind.i64.wrap (t12_30 + (IntKind.i64.wrap v_39))), ()), ())
 else
 bif (decide (x_0 ≥ 256)) then
  (rdI [0, 1, 2, 2, 3, 3, 3, 3, 4, 4, 4, 4, 4, 4, 4, 4, 5, 5, 5, 5, 5, 5, 5, 5, 5, 5, 5, 5, 5, 5, 5, 5, 6, 6, 6, 6, 6, 6, 6, 6, 6, 6, 6, 6, 6, 6, 6, 6, 6, 6, 6, 6, 6, 6, 6, 6, 6, 6, 6, 6, 6, 6, 6, 6, 7, 7, 7, 7, 7, 7, 7, 7, 7, 7, 7, 7, 7, 7, 7, 7, 7, 7, 7, 7, 7, 7, 7, 7, 7, 7, 7, 7, 7, 7, 7, 7, 7, 7, 7, 7, 7, 7, 7, 7, 7, 7, 7, 7, 7, 7, 7, 7, 7, 7, 7, 7, 7, 7, 7, 7, 7, 7, 7, 7, 7, 7, 7, 7, 8, 8, 8, 8, 8, 8, 8, 8, 8, 8, 8, 8, 8, 8, 8, 8, 8, 8, 8, 8, 8, 8, 8, 8, 8, 8, 8, 8, 8, 8, 8, 8, 8, 8, 8, 8, 8, 8, 8, 8, 8, 8, 8, 8, 8, 8, 8, 8, 8, 8, 8, 8, 8, 8, 8, 8, 8, 8, 8, 8, 8, 8, 8, 8, 8, 8, 8, 8, 8, 8, 8, 8, 8, 8, 8, 8, 8, 8, 8, 8, 8, 8, 8, 8, 8, 8, 8, 8, 8, 8, 8, 8, 8, 8, 8, 8, 8, 8, 8, 8, 8, 8, 8, 8, 8, 8, 8, 8, 8, 8, 8, 8, 8, 8, 8, 8, 8, 8, 8, 8, 8, 8, 8, 8, 8, 8, 8, 8] (IntKind.u8.wrap (x_0.fdiv (2 ^ 8)))).bind fun v_46 =>
  some (((IntKind.i64.wrap ((IntKind.i64.wrap (0 + 8)) + (IntKind.i64.wrap v_46))), ()), ())
 else
 (rdI [0, 1, 2, 2, 3, 3, 3, 3, 4, 4, 4, 4, 4, 4, 4, 4, 5, 5, 5, 5, 5, 5, 5, 5, 5, 5, 5, 5, 5, 5, 5, 5, 6, 6, 6, 6, 6, 6, 6, 6, 6, 6, 6, 6, 6, 6, 6, 6, 6, 6, 6, 6, 6, 6, 6, 6, 6, 6, 6, 6, 6, 6, 6, 6, 7, 7, 7, 7, 7, 7, 7, 7, 7, 7, 7, 7, 7, 7, 7, 7, 7, 7, 7, 7, 7, 7, 7, 7, 7, 7, 7, 7, 7, 7, 7, 7, 7, 7, 7, 7, 7, 7, 7, 7, 7, 7, 7, 7, 7, 7, 7, 7, 7, 7, 7, 7, 7, 7, 7, 7, 7, 7, 7, 7, 7, 7, 7, 7, 8, 8, 8, 8, 8, 8, 8, 8, 8, 8, 8, 8, 8, 8, 8, 8, 8, 8, 8, 8, 8, 8, 8, 8, 8, 8, 8, 8, 8, 8, 8, 8, 8, 8, 8, 8, 8, 8, 8, 8, 8, 8, 8, 8, 8, 8, 8, 8, 8, 8, 8, 8, 8, 8, 8, 8, 8, 8, 8, 8, 8, 8, 8, 8, 8, 8, 8, 8, 8, 8, 8, 8, 8, 8, 8, 8, 8, 8, 8, 8, 8, 8, 8, 8, 8, 8, 8, 8, 8, 8, 8, 8, 8, 8, 8, 8, 8, 8, 8, 8, 8, 8, 8, 8, 8, 8, 8, 8, 8, 8, 8, 8, 8, 8, 8, 8, 8, 8, 8, 8, 8, 8, 8, 8, 8, 8, 8, 8] (IntKind.u8.wrap x_0)).bind fun v_50 =>
 some (((IntKind.i64.wrap (0 + (IntKind.i64.wrap v_50))), ()), ())

noncomputable def bits_LeadingZeros64 (x_0 : Int) : Option ((Int × Unit) × (Unit)) :=
 (bits_Len64 x_0).bind fun r_1 =>
 some (((IntKind.i64.wrap (64 - r_1.1.1)), ()), ())

noncomputable def bits_Div64_s2 (y_2_2 : Int) (s_8_2 : Int) (yn1_9_2 : Int) (yn0_10_2 : Int) (un0_14_2 : Int) (q1_15_2 : Int) (rhat_16_2 : Int) (un21_17_2 : Int) (q0_18_2 : Int) : Option (((Int × Int × Int × Int × Int × Int × Int × Int × Int × Unit) × (Unit)) ⊕ ((Int × Int × Unit) × (Unit))) :=
 let t103_37 : Bool := decide (q0_18_2 ≥ 4294967296)
 guardR (!t103_37) (some ()) () fun _ =>
 guardR (!t103_37) (some ()) () fun _ =>
 guardR (!t103_37) (some (IntKind.u64.wrap (q0_18_2 * yn0_10_2))) 0 fun v_38 =>
 guardR (!t103_37) (some ()) () fun _ =>
 guardR (!t103_37) (some (IntKind.u64.wrap (4294967296 * rhat_16_2))) 0 fun v_39 =>
 guardR (!t103_37) (some ()) () fun _ =>
 guardR (!t103_37) (some (IntKind.u64.wrap (v_39 + un0_14_2))) 0 fun v_40 =>
 guardR (!t103_37) (some (decide (v_38 > v_40))) false fun v_41 =>
 bif (bif t103_37 then true else v_41) then
  let t115_43 : Int := IntKind.u64.wrap (q0_18_2 - 1)
  let t118_44 : Int := IntKind.u64.wrap (rhat_16_2 + yn1_9_2)
  bif (decide (t118_44 ≥ 4294967296)) then
   ((shrI .u64 (IntKind.u64.wrap ((IntKind.u64.wrap ((IntKind.u64.wrap (un21_17_2 * 4294967296)) + un0_14_2)) - (IntKind.u64.wrap (t115_43 * y_2_2)))) s_8_2).bind fun v_52 =>
   some (((IntKind.u64.wrap ((IntKind.u64.wrap (q1_15_2 * 4294967296)) + t115_43)), v_52, ()), ())).map .inr
  else
  some (.inl ((y_2_2, s_8_2, yn1_9_2, yn0_10_2, un0_14_2, q1_15_2, t118_44, un21_17_2, t115_43, ()), ()))
 else
 ((shrI .u64 (IntKind.u64.wrap ((IntKind.u64.wrap ((IntKind.u64.wrap (un21_17_2 * 4294967296)) + un0_14_2)) - (IntKind.u64.wrap (q0_18_2 * y_2_2)))) s_8_2).bind fun v_59 =>
 some (((IntKind.u64.wrap ((IntKind.u64.wrap (q1_15_2 * 4294967296)) + q0_18_2)), v_59, ()), ())).map .inr
noncomputable def bits_Div64_s0 (y_2_0 : Int) (s_8_0 : Int) (yn1_9_0 : Int) (yn0_10_0 : Int) (un32_11_0 : Int) (un1_13_0 : Int) (un0_14_0 : Int) (q1_15_0 : Int) (rhat_16_0 : Int) : Option (((Int × Int × Int × Int × Int × Int × Int × Int × Int × Unit) × (Unit)) ⊕ ((Int × Int × Unit) × (Unit))) :=
 let t68_21 : Bool := decide (q1_15_0 ≥ 4294967296)
 guardR (!t68_21) (some ()) () fun _ =>
 guardR (!t68_21) (some ()) () fun _ =>
 guardR (!t68_21) (some (IntKind.u64.wrap (q1_15_0 * yn0_10_0))) 0 fun v_22 =>
 guardR (!t68_21) (some ()) () fun _ =>
 guardR (!t68_21) (some (IntKind.u64.wrap (4294967296 * rhat_16_0))) 0 fun v_23 =>
 guardR (!t68_21) (some ()) () fun _ =>
 guardR (!t68_21) (some (IntKind.u64.wrap (v_23 + un1_13_0))) 0 fun v_24 =>
 guardR (!t68_21) (some (decide (v_22 > v_24))) false fun v_25 =>
 bif (bif t68_21 then true else v_25) then
  let t80_27 : Int := IntKind.u64.wrap (q1_15_0 - 1)
  let t83_28 : Int := IntKind.u64.wrap (rhat_16_0 + yn1_9_0)
  bif (decide (t83_28 ≥ 4294967296)) then
   let t93_33 : Int := IntKind.u64.wrap ((IntKind.u64.wrap ((IntKind.u64.wrap (un32_11_0 * 4294967296)) + un1_13_0)) - (IntKind.u64.wrap (t80_27 * y_2_0)))
   ((quoI .u64 t93_33 yn1_9_0).bind fun v_34 =>
   loopR (fun (z : (Int × Int × Int × Int × Int × Int × Int × Int × Int × Unit) × (Unit)) => bits_Div64_s2 z.1.1 z.1.2.1 z.1.2.2.1 z.1.2.2.2.1 z.1.2.2.2.2.1 z.1.2.2.2.2.2.1 z.1.2.2.2.2.2.2.1 z.1.2.2.2.2.2.2.2.1 z.1.2.2.2.2.2.2.2.2.1) ((y_2_0, s_8_0, yn1_9_0, yn0_10_0, un0_14_0, t80_27, (IntKind.u64.wrap (t93_33 - (IntKind.u64.wrap (v_34 * yn1_9_0)))), t93_33, v_34, ()), ())).map .inr
  else
  some (.inl ((y_2_0, s_8_0, yn1_9_0, yn0_10_0, un32_11_0, un1_13_0, un0_14_0, t80_27, t83_28, ()), ()))
 else
 let t93_63 : Int := IntKind.u64.wrap ((IntKind.u64.wrap ((IntKind.u64.wrap (un32_11_0 * 4294967296)) + un1_13_0)) - (IntKind.u64.wrap (q1_15_0 * y_2_0)))
 ((quoI .u64 t93_63 yn1_9_0).bind fun v_64 =>
 loopR (fun (z : (Int × Int × Int × Int × Int × Int × Int × Int × Int × Unit) × (Unit)) => bits_Div64_s2 z.1.1 z.1.2.1 z.1.2.2.1 z.1.2.2.2.1 z.1.2.2.2.2.1 z.1.2.2.2.2.2.1 z.1.2.2.2.2.2.2.1 z.1.2.2.2.2.2.2.2.1 z.1.2.2.2.2.2.2.2.2.1) ((y_2_0, s_8_0, yn1_9_0, yn0_10_0, un0_14_0, q1_15_0, (IntKind.u64.wrap (t93_63 - (IntKind.u64.wrap (v_64 * yn1_9_0)))), t93_63, v_64, ()), ())).map .inr
noncomputable def bits_Div64 (hi_0 : Int) (lo_1 : Int) (y_2 : Int) : Option ((Int × Int × Unit) × (Unit)) :=
 bif (decide (y_2 = 0)) then
  none
 else
 bif (decide (y_2 ≤ hi_0)) then
  none
 else
 bif (decide (hi_0 = 0)) then
  (quoI .u64 lo_1 y_2).bind fun v_4 =>
  (remI lo_1 y_2).bind fun v_5 =>
  some ((v_4, v_5, ()), ())
 else
 (bits_LeadingZeros64 y_2).bind fun r_6 =>
 let t36_7 : Int := IntKind.u64.wrap r_6.1.1
 (shlI .u64 y_2 t36_7).bind fun v_8 =>
 let t41_9 : Int := v_8.fdiv (2 ^ 32)
 (shlI .u64 hi_0 t36_7).bind fun v_11 =>
 (shrI .u64 lo_1 (IntKind.u64.wrap (64 - t36_7))).bind fun v_13 =>
 let t51_14 : Int := bitsI .or .u64 v_11 v_13
 (shlI .u64 lo_1 t36_7).bind fun v_15 =>
 (quoI .u64 t51_14 t41_9).bind fun v_18 =>
 loopR (fun (z : (Int × Int × Int × Int × Int × Int × Int × Int × Int × Unit) × (Unit)) => bits_Div64_s0 z.1.1 z.1.2.1 z.1.2.2.1 z.1.2.2.2.1 z.1.2.2.2.2.1 z.1.2.2.2.2.2.1 z.1.2.2.2.2.2.2.1 z.1.2.2.2.2.2.2.2.1 z.1.2.2.2.2.2.2.2.2.1) ((v_8, t36_7, t41_9, (bitsI .and .u64 v_8 4294967295), t51_14, (v_15.fdiv (2 ^ 32)), (bitsI .and .u64 v_15 4294967295), v_18, (IntKind.u64.wrap (t51_14 - (IntKind.u64.wrap (v_18 * t41_9)))), ()), ())

noncomputable def bits_Mul64 (x_0 : Int) (y_1 : Int) : Option ((Int × Int × Unit) × (Unit)) :=
 let t15_1 : Int := bitsI .and .u64 x_0 4294967295
 let t17_2 : Int := x_0.fdiv (2 ^ 32)
 let t19_3 : Int := bitsI .and .u64 y_1 4294967295
 let t21_4 : Int := y_1.fdiv (2 ^ 32)
 let t30_8 : Int := IntKind.u64.wrap ((IntKind.u64.wrap (t17_2 * t19_3)) + ((IntKind.u64.wrap (t15_1 * t19_3)).fdiv (2 ^ 32)))
 some (((IntKind.u64.wrap ((IntKind.u64.wrap ((IntKind.u64.wrap (t17_2 * t21_4)) + (t30_8.fdiv (2 ^ 32)))) + ((IntKind.u64.wrap ((bitsI .and .u64 t30_8 4294967295) + (IntKind.u64.wrap (t15_1 * t21_4)))).fdiv (2 ^ 32)))), (IntKind.u64.wrap (x_0 * y_1)), ()), ())

noncomputable abbrev internal_bytealg_IndexByteString := indexF

noncomputable def internal_stringslite_IndexByte (s_0 : List Int) (c_1 : Int) : Option ((Int × Unit) × (Unit)) :=
 (internal_bytealg_IndexByteString s_0 c_1).bind fun r_1 =>
 some ((r_1.1.1, ()), ())

noncomputable def internal_stringslite_Index (s_0 : List Int) (substr_1 : List Int) : Option ((Int × Unit) × (Unit)) :=
 let t15_1 : Int := (substr_1.length : Int)
 let t18_2 : Bool := decide (t15_1 = 0)
 guardR (!t18_2) (some ()) () fun _ =>
 guardR (!t18_2) (some ()) () fun _ =>
 guardR (!t18_2) (some (decide (substr_1 = s_0))) false fun v_3 =>
 bif (bif t18_2 then true else v_3) then
  some ((0, ()), ())
 else
 bif (decide (t15_1 = 1)) then
  (rdI substr_1 0).bind fun v_6 =>
  (internal_stringslite_IndexByte s_0 v_6).bind fun r_7 =>
  some ((r_7.1.1, ()), ())
 else
 bif (decide (t15_1 ≥ (s_0.length : Int))) then
  some (((-1), ()), ())
 else
 none

noncomputable def internal_stringslite_Cut (s_0 : List Int) (sep_1 : List Int) : Option (((List Int) × (List Int) × Bool × Unit) × (Unit)) :=
 (internal_stringslite_Index s_0 sep_1).bind fun r_1 =>
 bif (decide (r_1.1.1 ≥ 0)) then
  (subL s_0 0 r_1.1.1).bind fun v_3 =>
  (subL s_0 (IntKind.i64.wrap (r_1.1.1 + (sep_1.length : Int))) (s_0.length : Int)).bind fun v_6 =>
  some ((v_3, v_6, true, ()), ())
 else
 some ((s_0, [], false, ()), ())

noncomputable def strings_Cut (s_0 : List Int) (sep_1 : List Int) : Option (((List Int) × (List Int) × Bool × Unit) × (Unit)) :=
 (internal_stringslite_Cut s_0 sep_1).bind fun r_1 =>
 some ((r_1.1.1, r_1.1.2.1, r_1.1.2.2.1, ()), ())

noncomputable abbrev strings_Join := joinF

noncomputable def strings_trimLeftByte_s0 (s_0_0 : List Int) (c_1_0 : Int) : Option ((((List Int) × Int × Unit) × (Unit)) ⊕ (((List Int) × Unit) × (Unit))) :=
 let t7_2 : Bool := decide ((s_0_0.length : Int) > 0)
 guardR t7_2 (some ()) () fun _ =>
 guardR t7_2 (rdI s_0_0 0) 0 fun v_3 =>
 guardR t7_2 (some ()) () fun _ =>
 guardR t7_2 (some (decide (v_3 = c_1_0))) false fun v_4 =>
 bif (bif t7_2 then v_4 else false) then
  (subL s_0_0 1 (s_0_0.length : Int)).bind fun v_6 =>
  some (.inl ((v_6, c_1_0, ()), ()))
 else
 some (.inr ((s_0_0, ()), ()))
noncomputable def strings_trimLeftByte (s_0 : List Int) (c_1 : Int) : Option (((List Int) × Unit) × (Unit)) :=
 loopR (fun (z : ((List Int) × Int × Unit) × (Unit)) => strings_trimLeftByte_s0 z.1.1 z.1.2.1) ((s_0, c_1, ()), ())

noncomputable def strings_makeASCIISet_s0 (chars_0_0 : List Int) (i_4_0 : Int) (p2_0_0 : List Bool) : Option ((((List Int) × Int × Unit) × ((List Bool) × Unit)) ⊕ (((List Bool) × Bool × Unit) × (Unit))) :=
 bif (decide (i_4_0 < (chars_0_0.length : Int))) then
  (rdI chars_0_0 i_4_0).bind fun v_3 =>
  bif (decide (v_3 ≥ 128)) then
   some (.inr ((p2_0_0, false, ()), ()))
  else
  (Option.map (fun _ => v_3) (ckI v_3 256)).bind fun v_5 =>
  (stI p2_0_0 v_5 true).bind fun v_6 =>
  some (.inl ((chars_0_0, (IntKind.i64.wrap (i_4_0 + 1)), ()), v_6, ()))
 else
 some (.inr ((p2_0_0, true, ()), ()))
noncomputable def strings_makeASCIISet (chars_0 : List Int) : Option (((List Bool) × Bool × Unit) × (Unit)) :=
 loopR (fun (z : ((List Int) × Int × Unit) × ((List Bool) × Unit)) => strings_makeASCIISet_s0 z.1.1 z.1.2.1 z.2.1) ((chars_0, 0, ()), List.replicate 256 false, ())

noncomputable def strings_asciiSet_contains (as_0 : List Bool) (c_1 : Int) : Option ((Bool × Unit) × ((List Bool) × Unit)) :=
 (Option.map (fun _ => c_1) (ckI c_1 256)).bind fun v_1 =>
 (rdI as_0 v_1).bind fun v_2 =>
 some ((v_2, ()), as_0, ())

noncomputable def strings_trimLeftASCII_s0 (s_0_0 : List Int) (o0_0 : List Bool) : Option ((((List Int) × Unit) × ((List Bool) × Unit)) ⊕ (((List Int) × Unit) × ((List Bool) × Unit))) :=
 bif (decide ((s_0_0.length : Int) > 0)) then
  (rdI s_0_0 0).bind fun v_3 =>
  (strings_asciiSet_contains o0_0 v_3).bind fun r_4 =>
  bif !r_4.1.1 then
   some (.inr ((s_0_0, ()), r_4.2.1, ()))
  else
  (subL s_0_0 1 (s_0_0.length : Int)).bind fun v_5 =>
  some (.inl ((v_5, ()), r_4.2.1, ()))
 else
 some (.inr ((s_0_0, ()), o0_0, ()))
noncomputable def strings_trimLeftASCII (s_0 : List Int) (as_1 : List Bool) : Option (((List Int) × Unit) × ((List Bool) × Unit)) :=
 loopR (fun (z : ((List Int) × Unit) × ((List Bool) × Unit)) => strings_trimLeftASCII_s0 z.1.1 z.2.1) ((s_0, ()), as_1, ())

noncomputable def unicode_utf8_decodeRuneInStringSlow (s_0 : List Int) : Option ((Int × Int × Unit) × (Unit)) :=
 bif (decide ((s_0.length : Int) < 1)) then
  some ((65533, 0, ()), ())
 else
 (rdI s_0 0).bind fun v_3 =>
 none

noncomputable def unicode_utf8_DecodeRuneInString (s_0 : List Int) : Option ((Int × Int × Unit) × (Unit)) :=
 let t5_1 : Bool := !decide (s_0 = [])
 guardR t5_1 (some ()) () fun _ =>
 guardR t5_1 (rdI s_0 0) 0 fun v_2 =>
 guardR t5_1 (some (decide (v_2 < 128))) false fun v_3 =>
 bif (bif t5_1 then v_3 else false) then
  (rdI s_0 0).bind fun v_5 =>
  some (((IntKind.i32.wrap v_5), 1, ()), ())
 else
 (unicode_utf8_decodeRuneInStringSlow s_0).bind fun r_7 =>
 some ((r_7.1.1, r_7.1.2.1, ()), ())

noncomputable def strings_IndexByte (s_0 : List Int) (c_1 : Int) : Option ((Int × Unit) × (Unit)) :=
 (internal_stringslite_IndexByte s_0 c_1).bind fun r_1 =>
 some ((r_1.1.1, ()), ())

noncomputable def unicode_utf8_ValidRune (r_0 : Int) : Option ((Bool × Unit) × (Unit)) :=
 let t5_1 : Bool := decide ((0 : Int) ≤ r_0)
 guardR t5_1 (some ()) () fun _ =>
 guardR t5_1 (some (decide (r_0 < 55296))) false fun v_2 =>
 bif (bif t5_1 then v_2 else false) then
  some ((true, ()), ())
 else
 let t12_4 : Bool := decide ((57343 : Int) < r_0)
 guardR t12_4 (some ()) () fun _ =>
 guardR t12_4 (some (decide (r_0 ≤ 1114111))) false fun v_5 =>
 bif (bif t12_4 then v_5 else false) then
  some ((true, ()), ())
 else
 some ((false, ()), ())

noncomputable def strings_IndexRune_s9 (t175_175_9 : List Int × Int) : Option ((((List Int × Int) × Unit) × (Unit)) ⊕ ((Int × Unit) × (Unit))) :=
 match nextS t175_175_9 with
 | .inl y_7 => some (.inr (((-1), ()), ()))
 | .inr y_8 => bif (decide (y_8.1 = 65533)) then
   some (.inr ((t175_175_9.2, ()), ()))
  else
  some (.inl (((t175_175_9.1, y_8.2), ()), ()))
noncomputable def strings_IndexRune_s3 (s_0_3 : List Int) (rs_7_3 : List Int) (last_8_3 : Int) (i_9_3 : Int) (j_12_3 : Int) : Option ((((List Int) × (List Int) × Int × Int × Int × Unit) × (Unit)) ⊕ ((((List Int) × (List Int) × Int × Int × Unit) × (Unit)) ⊕ ((Int × Unit) × (Unit)))) :=
 bif (decide (j_12_3 < (rs_7_3.length : Int))) then
  (rdI s_0_3 (IntKind.i64.wrap (i_9_3 - j_12_3))).bind fun v_28 =>
  (rdI rs_7_3 (IntKind.i64.wrap (last_8_3 - j_12_3))).bind fun v_30 =>
  bif (!decide (v_28 = v_30)) then
   none
  else
  some (.inl ((s_0_3, rs_7_3, last_8_3, i_9_3, (IntKind.i64.wrap (j_12_3 + 1)), ()), ()))
 else
 some (.inr (.inr (((IntKind.i64.wrap (i_9_3 - last_8_3)), ()), ())))
noncomputable def strings_IndexRune_s1 (s_0_1 : List Int) (rs_7_1 : List Int) (last_8_1 : Int) (i_9_1 : Int) : Option ((((List Int) × (List Int) × Int × Int × Unit) × (Unit)) ⊕ ((Int × Unit) × (Unit))) :=
 bif (decide (i_9_1 < (s_0_1.length : Int))) then
  (rdI s_0_1 i_9_1).bind fun v_15 =>
  (rdI rs_7_1 last_8_1).bind fun v_16 =>
  bif (!decide (v_15 = v_16)) then
   (subL s_0_1 (IntKind.i64.wrap (i_9_1 + 1)) (s_0_1.length : Int)).bind fun v_19 =>
   (rdI rs_7_1 last_8_1).bind fun v_20 =>
   (strings_IndexByte v_19 v_20).bind fun r_21 =>
   bif (decide (r_21.1.1 < 0)) then
    some (.inr (((-1), ()), ()))
   else
   loopR (fun (z : ((List Int) × (List Int) × Int × Int × Int × Unit) × (Unit)) => strings_IndexRune_s3 z.1.1 z.1.2.1 z.1.2.2.1 z.1.2.2.2.1 z.1.2.2.2.2.1) ((s_0_1, rs_7_1, last_8_1, (IntKind.i64.wrap (i_9_1 + (IntKind.i64.wrap (r_21.1.1 + 1)))), 1, ()), ())
  else
  loopR (fun (z : ((List Int) × (List Int) × Int × Int × Int × Unit) × (Unit)) => strings_IndexRune_s3 z.1.1 z.1.2.1 z.1.2.2.1 z.1.2.2.2.1 z.1.2.2.2.2.1) ((s_0_1, rs_7_1, last_8_1, i_9_1, 1, ()), ())
 else
 some (.inr (((-1), ()), ()))
noncomputable def strings_IndexRune (s_0 : List Int) (r_1 : Int) : Option ((Int × Unit) × (Unit)) :=
 let t162_1 : Bool := decide ((0 : Int) ≤ r_1)
 guardR t162_1 (some ()) () fun _ =>
 guardR t162_1 (some (decide (r_1 < 128))) false fun v_2 =>
 bif (bif t162_1 then v_2 else false) then
  (strings_IndexByte s_0 (IntKind.u8.wrap r_1)).bind fun r_5 =>
  some ((r_5.1.1, ()), ())
 else
 bif (decide (r_1 = 65533)) then
  loopR (fun (z : ((List Int × Int) × Unit) × (Unit)) => strings_IndexRune_s9 z.1.1) (((s_0, 0), ()), ())
 else
 (unicode_utf8_ValidRune r_1).bind fun r_10 =>
 bif !r_10.1.1 then
  some (((-1), ()), ())
 else
 let t21_12 : Int := IntKind.i64.wrap (((runeI r_1).length : Int) - 1)
 loopR (fun (z : ((List Int) × (List Int) × Int × Int × Unit) × (Unit)) => strings_IndexRune_s1 z.1.1 z.1.2.1 z.1.2.2.1 z.1.2.2.2.1) ((s_0, runeI r_1, t21_12, t21_12, ()), ())

noncomputable def strings_ContainsRune (s_0 : List Int) (r_1 : Int) : Option ((Bool × Unit) × (Unit)) :=
 (strings_IndexRune s_0 r_1).bind fun rr_1 =>
 some (((decide (rr_1.1.1 ≥ 0)), ()), ())

noncomputable def strings_trimLeftUnicode_s0 (s_0_0 : List Int) (cutset_1_0 : List Int) : Option ((((List Int) × (List Int) × Unit) × (Unit)) ⊕ (((List Int) × Unit) × (Unit))) :=
 bif (decide ((s_0_0.length : Int) > 0)) then
  (unicode_utf8_DecodeRuneInString s_0_0).bind fun r_3 =>
  (strings_ContainsRune cutset_1_0 r_3.1.1).bind fun r_4 =>
  bif !r_4.1.1 then
   some (.inr ((s_0_0, ()), ()))
  else
  (subL s_0_0 r_3.1.2.1 (s_0_0.length : Int)).bind fun v_5 =>
  some (.inl ((v_5, cutset_1_0, ()), ()))
 else
 some (.inr ((s_0_0, ()), ()))
noncomputable def strings_trimLeftUnicode (s_0 : List Int) (cutset_1 : List Int) : Option (((List Int) × Unit) × (Unit)) :=
 loopR (fun (z : ((List Int) × (List Int) × Unit) × (Unit)) => strings_trimLeftUnicode_s0 z.1.1 z.1.2.1) ((s_0, cutset_1, ()), ())

noncomputable def strings_TrimLeft (s_0 : List Int) (cutset_1 : List Int) : Option (((List Int) × Unit) × (Unit)) :=
 let t8_1 : Bool := decide (s_0 = [])
 guardR (!t8_1) (some ()) () fun _ =>
 guardR (!t8_1) (some (decide (cutset_1 = []))) false fun v_2 =>
 bif (bif t8_1 then true else v_2) then
  some ((s_0, ()), ())
 else
 let t16_5 : Bool := decide ((cutset_1.length : Int) = 1)
 guardR t16_5 (some ()) () fun _ =>
 guardR t16_5 (rdI cutset_1 0) 0 fun v_6 =>
 guardR t16_5 (some (decide (v_6 < 128))) false fun v_7 =>
 bif (bif t16_5 then v_7 else false) then
  (rdI cutset_1 0).bind fun v_9 =>
  (strings_trimLeftByte s_0 v_9).bind fun r_10 =>
  some ((r_10.1.1, ()), ())
 else
 (strings_makeASCIISet cutset_1).bind fun r_11 =>
 bif r_11.1.2.1 then
  (strings_trimLeftASCII s_0 r_11.1.1).bind fun r_12 =>
  some ((r_12.1.1, ()), ())
 else
 (strings_trimLeftUnicode s_0 cutset_1).bind fun r_13 =>
 some ((r_13.1.1, ()), ())

noncomputable def internal_stringslite_HasPrefix (s_0 : List Int) (prefix_1 : List Int) : Option ((Bool × Unit) × (Unit)) :=
 let t9_3 : Bool := decide ((s_0.length : Int) ≥ (prefix_1.length : Int))
 guardR t9_3 (some ()) () fun _ =>
 guardR t9_3 (some ()) () fun _ =>
 guardR t9_3 (some (prefix_1.length : Int)) 0 fun v_4 =>
 guardR t9_3 (subL s_0 0 v_4) [] fun v_5 =>
 guardR t9_3 (some ()) () fun _ =>
 guardR t9_3 (some (decide (v_5 = prefix_1))) false fun v_6 =>
 some (((bif t9_3 then v_6 else false), ()), ())

noncomputable def strings_HasPrefix (s_0 : List Int) (prefix_1 : List Int) : Option ((Bool × Unit) × (Unit)) :=
 (internal_stringslite_HasPrefix s_0 prefix_1).bind fun r_1 =>
 some ((r_1.1.1, ()), ())

noncomputable def strings_Index (s_0 : List Int) (substr_1 : List Int) : Option ((Int × Unit) × (Unit)) :=
 (internal_stringslite_Index s_0 substr_1).bind fun r_1 =>
 some ((r_1.1.1, ()), ())

noncomputable def strings_Contains (s_0 : List Int) (substr_1 : List Int) : Option ((Bool × Unit) × (Unit)) :=
 (strings_Index s_0 substr_1).bind fun r_1 =>
 some (((decide (r_1.1.1 ≥ 0)), ()), ())

noncomputable def internal_stringslite_CutPrefix (s_0 : List Int) (prefix_1 : List Int) : Option (((List Int) × Bool × Unit) × (Unit)) :=
 (internal_stringslite_HasPrefix s_0 prefix_1).bind fun r_1 =>
 bif !r_1.1.1 then
  some ((s_0, false, ()), ())
 else
 (subL s_0 (prefix_1.length : Int) (s_0.length : Int)).bind fun v_3 =>
 some ((v_3, true, ()), ())

noncomputable def strings_CutPrefix (s_0 : List Int) (prefix_1 : List Int) : Option (((List Int) × Bool × Unit) × (Unit)) :=
 (internal_stringslite_CutPrefix s_0 prefix_1).bind fun r_1 =>
 some ((r_1.1.1, r_1.1.2.1, ()), ())

end Go.L

namespace Go.L
open Go Go.Pv
set_option maxRecDepth 100000

noncomputable def word_Add (a_0 : Int × Int × Unit) (b_1 : Int × Int × Unit) : Option (((Int × Int × Unit) × Bool × Unit) × (Unit)) :=
 (bits_Add64 a_0.2.1 b_1.2.1 0).bind fun r_1 =>
 (bits_Add64 a_0.1 b_1.1 r_1.1.2.1).bind fun r_2 =>
 some (((r_2.1.1, r_1.1.1, ()), (decide (r_2.1.2.1 > 0)), ()), ())

noncomputable def ref01_Of_s0 (hi_0_0 : Int) (lo_1_0 : Int) (i_6_0 : Int) (p4_0_0 : List Bool) (p5_0_0 : List Bool) : Option (((Int × Int × Int × Unit) × ((List Bool) × (List Bool) × Unit)) ⊕ (((List Bool) × Unit) × (Unit))) :=
 bif (decide (i_6_0 < 64)) then
  (Option.map (fun _ => i_6_0) (ckI i_6_0 128)).bind fun v_4 =>
  (stI p5_0_0 v_4 (decide ((lo_1_0.tmod 2) = 1))).bind fun v_5 =>
  let t17_6 : Int := IntKind.i64.wrap (i_6_0 + 64)
  (Option.map (fun _ => t17_6) (ckI t17_6 128)).bind fun v_9 =>
  (stI v_5 v_9 (decide ((hi_0_0.tmod 2) = 1))).bind fun v_10 =>
  some (.inl (((IntKind.u64.wrap (hi_0_0.tdiv 2)), (IntKind.u64.wrap (lo_1_0.tdiv 2)), (IntKind.i64.wrap (i_6_0 + 1)), ()), p4_0_0, v_10, ()))
 else
 some (.inr ((p5_0_0, ()), ()))
noncomputable def ref01_Of (hi_0 : Int) (lo_1 : Int) : Option (((List Bool) × Unit) × (Unit)) :=
 loopR (fun (z : (Int × Int × Int × Unit) × ((List Bool) × (List Bool) × Unit)) => ref01_Of_s0 z.1.1 z.1.2.1 z.1.2.2.1 z.2.1 z.2.2.1) ((hi_0, lo_1, 0, ()), List.replicate 128 false, List.replicate 128 false, ())

noncomputable def ref01_Sum_s0 (carry_2_0 : Bool) (i_9_0 : Int) (p3_0_0 : List Bool) (p4_0_0 : List Bool) (p6_0_0 : List Bool) (p8_0_0 : List Bool) : Option (((Bool × Int × Unit) × ((List Bool) × (List Bool) × (List Bool) × (List Bool) × Unit)) ⊕ (((List Bool) × Bool × Unit) × (Unit))) :=
 bif (decide (i_9_0 < 128)) then
  (Option.map (fun _ => i_9_0) (ckI i_9_0 128)).bind fun v_2 =>
  (rdI p3_0_0 v_2).bind fun v_3 =>
  bif v_3 then
   let t19_4 : Int := IntKind.i64.wrap (0 + 1)
   (Option.map (fun _ => i_9_0) (ckI i_9_0 128)).bind fun v_5 =>
   (rdI p4_0_0 v_5).bind fun v_6 =>
   bif v_6 then
    let t24_7 : Int := IntKind.i64.wrap (t19_4 + 1)
    bif carry_2_0 then
     let t27_8 : Int := IntKind.i64.wrap (t24_7 + 1)
     (Option.map (fun _ => i_9_0) (ckI i_9_0 128)).bind fun v_11 =>
     (stI p8_0_0 v_11 (decide ((t27_8.tmod 2) = 1))).bind fun v_12 =>
     some (.inl (((decide (t27_8 ≥ 2)), (IntKind.i64.wrap (i_9_0 + 1)), ()), p3_0_0, p4_0_0, p6_0_0, v_12, ()))
    else
    (Option.map (fun _ => i_9_0) (ckI i_9_0 128)).bind fun v_17 =>
    (stI p8_0_0 v_17 (decide ((t24_7.tmod 2) = 1))).bind fun v_18 =>
    some (.inl (((decide (t24_7 ≥ 2)), (IntKind.i64.wrap (i_9_0 + 1)), ()), p3_0_0, p4_0_0, p6_0_0, v_18, ()))
   else
   bif carry_2_0 then
    let t27_21 : Int := IntKind.i64.wrap (t19_4 + 1)
    (Option.map (fun _ => i_9_0) (ckI i_9_0 128)).bind fun v_24 =>
    (stI p8_0_0 v_24 (decide ((t27_21.tmod 2) = 1))).bind fun v_25 =>
    some (.inl (((decide (t27_21 ≥ 2)), (IntKind.i64.wrap (i_9_0 + 1)), ()), p3_0_0, p4_0_0, p6_0_0, v_25, ()))
   else
   (Option.map (fun _ => i_9_0) (ckI i_9_0 128)).bind fun v_30 =>
   (stI p8_0_0 v_30 (decide ((t19_4.tmod 2) = 1))).bind fun v_31 =>
   some (.inl (((decide (t19_4 ≥ 2)), (IntKind.i64.wrap (i_9_0 + 1)), ()), p3_0_0, p4_0_0, p6_0_0, v_31, ()))
  else
  (Option.map (fun _ => i_9_0) (ckI i_9_0 128)).bind fun v_34 =>
  (rdI p4_0_0 v_34).bind fun v_35 =>
  bif v_35 then
   let t24_36 : Int := IntKind.i64.wrap (0 + 1)
   bif carry_2_0 then
    let t27_37 : Int := IntKind.i64.wrap (t24_36 + 1)
    (Option.map (fun _ => i_9_0) (ckI i_9_0 128)).bind fun v_40 =>
    (stI p8_0_0 v_40 (decide ((t27_37.tmod 2) = 1))).bind fun v_41 =>
    some (.inl (((decide (t27_37 ≥ 2)), (IntKind.i64.wrap (i_9_0 + 1)), ()), p3_0_0, p4_0_0, p6_0_0, v_41, ()))
   else
   (Option.map (fun _ => i_9_0) (ckI i_9_0 128)).bind fun v_46 =>
   (stI p8_0_0 v_46 (decide ((t24_36.tmod 2) = 1))).bind fun v_47 =>
   some (.inl (((decide (t24_36 ≥ 2)), (IntKind.i64.wrap (i_9_0 + 1)), ()), p3_0_0, p4_0_0, p6_0_0, v_47, ()))
  else
  bif carry_2_0 then
   let t27_50 : Int := IntKind.i64.wrap (0 + 1)
   (Option.map (fun _ => i_9_0) (ckI i_9_0 128)).bind fun v_53 =>
   (stI p8_0_0 v_53 (decide ((t27_50.tmod 2) = 1))).bind fun v_54 =>
   some (.inl (((decide (t27_50 ≥ 2)), (IntKind.i64.wrap (i_9_0 + 1)), ()), p3_0_0, p4_0_0, p6_0_0, v_54, ()))
  else
  (Option.map (fun _ => i_9_0) (ckI i_9_0 128)).bind fun v_59 =>
  (stI p8_0_0 v_59 (decide (((0 : Int).tmod 2) = 1))).bind fun v_60 =>
  some (.inl (((decide ((0 : Int) ≥ 2)), (IntKind.i64.wrap (i_9_0 + 1)), ()), p3_0_0, p4_0_0, p6_0_0, v_60, ()))
 else
 some (.inr ((p8_0_0, carry_2_0, ()), ()))
noncomputable def ref01_Sum (a_0 : List Bool) (b_1 : List Bool) (carry_2 : Bool) : Option (((List Bool) × Bool × Unit) × (Unit)) :=
 loopR (fun (z : (Bool × Int × Unit) × ((List Bool) × (List Bool) × (List Bool) × (List Bool) × Unit)) => ref01_Sum_s0 z.1.1 z.1.2.1 z.2.1 z.2.2.1 z.2.2.2.1 z.2.2.2.2.1) ((carry_2, 0, ()), a_0, b_1, List.replicate 128 false, List.replicate 128 false, ())

noncomputable def word_Sub (a_0 : Int × Int × Unit) (b_1 : Int × Int × Unit) : Option (((Int × Int × Unit) × Bool × Unit) × (Unit)) :=
 (bits_Sub64 a_0.2.1 b_1.2.1 0).bind fun r_1 =>
 (bits_Sub64 a_0.1 b_1.1 r_1.1.2.1).bind fun r_2 =>
 some (((r_2.1.1, r_1.1.1, ()), (decide (r_2.1.2.1 > 0)), ()), ())

noncomputable def ref01_Turned_s0 (i_4_0 : Int) (p1_0_0 : List Bool) (p2_0_0 : List Bool) (p3_0_0 : List Bool) : Option (((Int × Unit) × ((List Bool) × (List Bool) × (List Bool) × Unit)) ⊕ (((List Bool) × Unit) × (Unit))) :=
 bif (decide (i_4_0 < 128)) then
  (Option.map (fun _ => i_4_0) (ckI i_4_0 128)).bind fun v_2 =>
  (rdI p1_0_0 v_2).bind fun v_3 =>
  (Option.map (fun _ => i_4_0) (ckI i_4_0 128)).bind fun v_4 =>
  (stI p3_0_0 v_4 (!v_3)).bind fun v_5 =>
  some (.inl (((IntKind.i64.wrap (i_4_0 + 1)), ()), p1_0_0, p2_0_0, v_5, ()))
 else
 some (.inr ((p3_0_0, ()), ()))
noncomputable def ref01_Turned (a_0 : List Bool) : Option (((List Bool) × Unit) × (Unit)) :=
 loopR (fun (z : (Int × Unit) × ((List Bool) × (List Bool) × (List Bool) × Unit)) => ref01_Turned_s0 z.1.1 z.2.1 z.2.2.1 z.2.2.2.1) ((0, ()), a_0, List.replicate 128 false, List.replicate 128 false, ())

noncomputable def ref01_Less_s0 (i_5_0 : Int) (p2_0_0 : List Bool) (p3_0_0 : List Bool) : Option (((Int × Unit) × ((List Bool) × (List Bool) × Unit)) ⊕ ((Bool × Unit) × (Unit))) :=
 bif (decide (i_5_0 ≥ 0)) then
  (Option.map (fun _ => i_5_0) (ckI i_5_0 128)).bind fun v_2 =>
  (rdI p2_0_0 v_2).bind fun v_3 =>
  (Option.map (fun _ => i_5_0) (ckI i_5_0 128)).bind fun v_4 =>
  (rdI p3_0_0 v_4).bind fun v_5 =>
  bif (!(decide (v_3 = v_5))) then
   (Option.map (fun _ => i_5_0) (ckI i_5_0 128)).bind fun v_7 =>
   (rdI p3_0_0 v_7).bind fun v_8 =>
   some (.inr ((v_8, ()), ()))
  else
  some (.inl (((IntKind.i64.wrap (i_5_0 - 1)), ()), p2_0_0, p3_0_0, ()))
 else
 some (.inr ((false, ()), ()))
noncomputable def ref01_Less (a_0 : List Bool) (b_1 : List Bool) : Option ((Bool × Unit) × (Unit)) :=
 loopR (fun (z : (Int × Unit) × ((List Bool) × (List Bool) × Unit)) => ref01_Less_s0 z.1.1 z.2.1 z.2.2.1) ((127, ()), a_0, b_1, ())

noncomputable def ref01_Minus (a_0 : List Bool) (b_1 : List Bool) : Option (((List Bool) × Bool × Unit) × (Unit)) :=
 (ref01_Turned b_1).bind fun r_1 =>
 (ref01_Sum a_0 r_1.1.1 true).bind fun r_2 =>
 (ref01_Less a_0 b_1).bind fun r_3 =>
 some ((r_2.1.1, r_3.1.1, ()), ())

noncomputable def word_based (base_0 : Int) : Option ((Bool × Unit) × (Unit)) :=
 let t4_1 : Bool := decide (base_0 ≥ 2)
 guardR t4_1 (some ()) () fun _ =>
 guardR t4_1 (some (decide (base_0 ≤ 16))) false fun v_2 =>
 some (((bif t4_1 then v_2 else false), ()), ())

noncomputable def word_Div (a_0 : Int × Int × Unit) (d_1 : Int) : Option (((Int × Int × Unit) × Int × Bool × Unit) × (Unit)) :=
 bif (decide (d_1 = 0)) then
  some (((0, 0, ()), 0, false, ()), ())
 else
 (quoI .u64 a_0.1 d_1).bind fun v_2 =>
 (remI a_0.1 d_1).bind fun v_3 =>
 (bits_Div64 v_3 a_0.2.1 d_1).bind fun r_4 =>
 some (((v_2, r_4.1.1, ()), r_4.1.2.1, true, ()), ())

noncomputable def word_Text_s2 (b_5_2 : List Int) (t37_37_2 : Int) (t38_38_2 : Int) : Option ((((List Int) × Int × Int × Unit) × (Unit)) ⊕ (((List Int) × Unit) × (Unit))) :=
 bif (decide (t38_38_2 < t37_37_2)) then
  let t48_15 : Int := IntKind.i64.wrap ((IntKind.i64.wrap ((b_5_2.length : Int) - 1)) - t38_38_2)
  let t54_18 : Int := IntKind.i64.wrap ((IntKind.i64.wrap ((b_5_2.length : Int) - 1)) - t38_38_2)
  (Option.map (fun _ => t54_18) (ckI t54_18 b_5_2.length)).bind fun v_19 =>
  (rdI b_5_2 v_19).bind fun v_20 =>
  (Option.map (fun _ => t38_38_2) (ckI t38_38_2 b_5_2.length)).bind fun v_21 =>
  (rdI b_5_2 v_21).bind fun v_22 =>
  (Option.map (fun _ => t38_38_2) (ckI t38_38_2 b_5_2.length)).bind fun v_23 =>
  (stI b_5_2 v_23 v_20).bind fun v_24 =>
  (Option.map (fun _ => t48_15) (ckI t48_15 v_24.length)).bind fun v_25 =>
  (stI v_24 v_25 v_22).bind fun v_26 =>
  some (.inl ((v_26, t37_37_2, (IntKind.i64.wrap (t38_38_2 + 1)), ()), ()))
 else
 some (.inr ((b_5_2, ()), ()))
noncomputable def word_Text_s0 (base_1_0 : Int) (b_5_0 : List Int) (p2_0_0 : Int × Int × Unit) : Option (((Int × (List Int) × Unit) × ((Int × Int × Unit) × Unit)) ⊕ (((List Int) × Unit) × (Unit))) :=
 let t15_2 : Bool := !(decide (p2_0_0.1 = 0) && decide (p2_0_0.2.1 = 0))
 guardR (!t15_2) (some ()) () fun _ =>
 guardR (!t15_2) (some (b_5_0.length : Int)) 0 fun v_3 =>
 guardR (!t15_2) (some (decide (v_3 = 0))) false fun v_4 =>
 bif (bif t15_2 then true else v_4) then
  (word_Div (p2_0_0.1, p2_0_0.2.1, ()) (IntKind.u64.wrap base_1_0)).bind fun r_7 =>
  (rdI [48, 49, 50, 51, 52, 53, 54, 55, 56, 57, 97, 98, 99, 100, 101, 102] r_7.1.2.1).bind fun v_8 =>
  (roomI 1 b_5_0 [v_8]).bind fun v_9 =>
  some (.inl ((base_1_0, v_9, ()), r_7.1.1, ()))
 else
 (loopR (fun (z : ((List Int) × Int × Int × Unit) × (Unit)) => word_Text_s2 z.1.1 z.1.2.1 z.1.2.2.1) ((b_5_0, (IntKind.i64.wrap ((b_5_0.length : Int).tdiv 2)), 0, ()), ())).map .inr
noncomputable def word_Text (a_0 : Int × Int × Unit) (base_1 : Int) : Option (((List Int) × Unit) × (Unit)) :=
 (word_based base_1).bind fun r_1 =>
 bif !r_1.1.1 then
  some (([], ()), ())
 else
 loopR (fun (z : (Int × (List Int) × Unit) × ((Int × Int × Unit) × Unit)) => word_Text_s0 z.1.1 z.1.2.1 z.2.1) ((base_1, [], ()), (a_0.1, a_0.2.1, ()), ())

noncomputable def word_Mul (a_0 : Int × Int × Unit) (b_1 : Int × Int × Unit) : Option (((Int × Int × Unit) × Unit) × (Unit)) :=
 (bits_Mul64 a_0.2.1 b_1.2.1).bind fun r_1 =>
 some ((((IntKind.u64.wrap ((IntKind.u64.wrap (r_1.1.1 + (IntKind.u64.wrap (a_0.1 * b_1.2.1)))) + (IntKind.u64.wrap (a_0.2.1 * b_1.1)))), r_1.1.2.1, ()), ()), ())

noncomputable def ref01_Moved_s0 (n_1_0 : Int) (i_6_0 : Int) (p2_0_0 : List Bool) (p4_0_0 : List Bool) (p5_0_0 : List Bool) : Option (((Int × Int × Unit) × ((List Bool) × (List Bool) × (List Bool) × Unit)) ⊕ (((List Bool) × Unit) × (Unit))) :=
 bif (decide (i_6_0 < 128)) then
  let t12_2 : Bool := decide (n_1_0 > (-128))
  guardR t12_2 (some ()) () fun _ =>
  guardR t12_2 (some (decide (n_1_0 < 128))) false fun v_3 =>
  let t16_4 : Bool := bif t12_2 then v_3 else false
  guardR t16_4 (some ()) () fun _ =>
  guardR t16_4 (some ()) () fun _ =>
  guardR t16_4 (some (IntKind.i64.wrap (i_6_0 - n_1_0))) 0 fun v_5 =>
  guardR t16_4 (some (decide (v_5 ≥ 0))) false fun v_6 =>
  let t22_7 : Bool := bif t16_4 then v_6 else false
  guardR t22_7 (some ()) () fun _ =>
  guardR t22_7 (some ()) () fun _ =>
  guardR t22_7 (some (IntKind.i64.wrap (i_6_0 - n_1_0))) 0 fun v_8 =>
  guardR t22_7 (some (decide (v_8 < 128))) false fun v_9 =>
  bif (bif t22_7 then v_9 else false) then
   let t32_11 : Int := IntKind.i64.wrap (i_6_0 - n_1_0)
   (Option.map (fun _ => t32_11) (ckI t32_11 128)).bind fun v_12 =>
   (rdI p2_0_0 v_12).bind fun v_13 =>
   (Option.map (fun _ => i_6_0) (ckI i_6_0 128)).bind fun v_14 =>
   (stI p5_0_0 v_14 v_13).bind fun v_15 =>
   some (.inl ((n_1_0, (IntKind.i64.wrap (i_6_0 + 1)), ()), p2_0_0, p4_0_0, v_15, ()))
  else
  some (.inl ((n_1_0, (IntKind.i64.wrap (i_6_0 + 1)), ()), p2_0_0, p4_0_0, p5_0_0, ()))
 else
 some (.inr ((p5_0_0, ()), ()))
noncomputable def ref01_Moved (a_0 : List Bool) (n_1 : Int) : Option (((List Bool) × Unit) × (Unit)) :=
 loopR (fun (z : (Int × Int × Unit) × ((List Bool) × (List Bool) × (List Bool) × Unit)) => ref01_Moved_s0 z.1.1 z.1.2.1 z.2.1 z.2.2.1 z.2.2.2.1) ((n_1, 0, ()), a_0, List.replicate 128 false, List.replicate 128 false, ())

noncomputable def ref01_Product_s0 (i_6_0 : Int) (p2_0_0 : List Bool) (p3_0_0 : List Bool) (p4_0_0 : List Bool) (p5_0_0 : List Bool) : Option (((Int × Unit) × ((List Bool) × (List Bool) × (List Bool) × (List Bool) × Unit)) ⊕ (((List Bool) × Unit) × (Unit))) :=
 bif (decide (i_6_0 < 128)) then
  (Option.map (fun _ => i_6_0) (ckI i_6_0 128)).bind fun v_2 =>
  (rdI p3_0_0 v_2).bind fun v_3 =>
  bif v_3 then
   (ref01_Moved p2_0_0 i_6_0).bind fun r_4 =>
   (ref01_Sum p5_0_0 r_4.1.1 false).bind fun r_5 =>
   some (.inl (((IntKind.i64.wrap (i_6_0 + 1)), ()), p2_0_0, p3_0_0, p4_0_0, r_5.1.1, ()))
  else
  some (.inl (((IntKind.i64.wrap (i_6_0 + 1)), ()), p2_0_0, p3_0_0, p4_0_0, p5_0_0, ()))
 else
 some (.inr ((p5_0_0, ()), ()))
noncomputable def ref01_Product (a_0 : List Bool) (b_1 : List Bool) : Option (((List Bool) × Unit) × (Unit)) :=
 loopR (fun (z : (Int × Unit) × ((List Bool) × (List Bool) × (List Bool) × (List Bool) × Unit)) => ref01_Product_s0 z.1.1 z.2.1 z.2.2.1 z.2.2.2.1 z.2.2.2.2.1) ((0, ()), a_0, b_1, List.replicate 128 false, List.replicate 128 false, ())

noncomputable def ref01_Part_s0 (i_8_0 : Int) (p2_0_0 : List Bool) (p3_0_0 : List Bool) (p4_0_0 : List Bool) (p5_0_0 : List Bool) (p6_0_0 : List Bool) (p7_0_0 : List Bool) : Option (((Int × Unit) × ((List Bool) × (List Bool) × (List Bool) × (List Bool) × (List Bool) × (List Bool) × Unit)) ⊕ (((List Bool) × (List Bool) × Unit) × (Unit))) :=
 bif (decide (i_8_0 ≥ 0)) then
  (Option.map (fun _ => 127) (ckI 127 128)).bind fun v_2 =>
  (rdI p7_0_0 v_2).bind fun v_3 =>
  (ref01_Moved p7_0_0 1).bind fun r_4 =>
  (Option.map (fun _ => i_8_0) (ckI i_8_0 128)).bind fun v_5 =>
  (rdI p2_0_0 v_5).bind fun v_6 =>
  (Option.map (fun _ => 0) (ckI 0 128)).bind fun v_7 =>
  (stI r_4.1.1 v_7 v_6).bind fun v_8 =>
  guardR (!v_3) (some v_8) (List.replicate 128 false) fun v_9 =>
  guardR (!v_3) (some p3_0_0) (List.replicate 128 false) fun v_10 =>
  guardR (!v_3) (ref01_Less v_9 v_10) ((false, ()), ()) fun r_11 =>
  guardR (!v_3) (some ()) () fun _ =>
  bif (bif v_3 then true else !r_11.1.1) then
   (ref01_Minus v_8 p3_0_0).bind fun r_13 =>
   (Option.map (fun _ => i_8_0) (ckI i_8_0 128)).bind fun v_14 =>
   (stI p6_0_0 v_14 true).bind fun v_15 =>
   some (.inl (((IntKind.i64.wrap (i_8_0 - 1)), ()), p2_0_0, p3_0_0, p4_0_0, p5_0_0, v_15, r_13.1.1, ()))
  else
  some (.inl (((IntKind.i64.wrap (i_8_0 - 1)), ()), p2_0_0, p3_0_0, p4_0_0, p5_0_0, p6_0_0, v_8, ()))
 else
 some (.inr ((p6_0_0, p7_0_0, ()), ()))
noncomputable def ref01_Part (a_0 : List Bool) (d_1 : List Bool) : Option (((List Bool) × (List Bool) × Unit) × (Unit)) :=
 loopR (fun (z : (Int × Unit) × ((List Bool) × (List Bool) × (List Bool) × (List Bool) × (List Bool) × (List Bool) × Unit)) => ref01_Part_s0 z.1.1 z.2.1 z.2.2.1 z.2.2.2.1 z.2.2.2.2.1 z.2.2.2.2.2.1 z.2.2.2.2.2.2.1) ((127, ()), a_0, d_1, List.replicate 128 false, List.replicate 128 false, List.replicate 128 false, List.replicate 128 false, ())

noncomputable def word_And (a_0 : Int × Int × Unit) (b_1 : Int × Int × Unit) : Option (((Int × Int × Unit) × Unit) × (Unit)) :=
 some ((((bitsI .and .u64 a_0.1 b_1.1), (bitsI .and .u64 a_0.2.1 b_1.2.1), ()), ()), ())

noncomputable def word_Not (a_0 : Int × Int × Unit) : Option (((Int × Int × Unit) × Unit) × (Unit)) :=
 some ((((bitsI .xor .u64 IntKind.u64.max a_0.1), (bitsI .xor .u64 IntKind.u64.max a_0.2.1), ()), ()), ())

noncomputable def word_Shl_g (word_Shl : (Int × Int × Unit) → Int → Option (((Int × Int × Unit) × Unit) × (Unit))) (word_Shr : (Int × Int × Unit) → Int → Option (((Int × Int × Unit) × Unit) × (Unit))) (a_0 : Int × Int × Unit) (n_1 : Int) : Option (((Int × Int × Unit) × Unit) × (Unit)) :=
 let t7_1 : Bool := decide (n_1 ≤ (-128))
 guardR (!t7_1) (some ()) () fun _ =>
 guardR (!t7_1) (some (decide (n_1 ≥ 128))) false fun v_2 =>
 bif (bif t7_1 then true else v_2) then
  some (((0, 0, ()), ()), ())
 else
 bif (decide (n_1 < 0)) then
  (word_Shr (a_0.1, a_0.2.1, ()) (IntKind.i64.wrap (0 - n_1))).bind fun r_6 =>
  some ((r_6.1.1, ()), ())
 else
 bif (decide (n_1 = 0)) then
  some (((a_0.1, a_0.2.1, ()), ()), ())
 else
 bif (decide (n_1 ≥ 64)) then
  (shlI .u64 a_0.2.1 (IntKind.i64.wrap (n_1 - 64))).bind fun v_10 =>
  some (((v_10, 0, ()), ()), ())
 else
 (shlI .u64 a_0.1 n_1).bind fun v_11 =>
 (shrI .u64 a_0.2.1 (IntKind.i64.wrap (64 - n_1))).bind fun v_13 =>
 (shlI .u64 a_0.2.1 n_1).bind fun v_15 =>
 some ((((bitsI .or .u64 v_11 v_13), v_15, ()), ()), ())
noncomputable def word_Shr_g (word_Shl : (Int × Int × Unit) → Int → Option (((Int × Int × Unit) × Unit) × (Unit))) (word_Shr : (Int × Int × Unit) → Int → Option (((Int × Int × Unit) × Unit) × (Unit))) (a_0 : Int × Int × Unit) (n_1 : Int) : Option (((Int × Int × Unit) × Unit) × (Unit)) :=
 let t7_1 : Bool := decide (n_1 ≤ (-128))
 guardR (!t7_1) (some ()) () fun _ =>
 guardR (!t7_1) (some (decide (n_1 ≥ 128))) false fun v_2 =>
 bif (bif t7_1 then true else v_2) then
  some (((0, 0, ()), ()), ())
 else
 bif (decide (n_1 < 0)) then
  (word_Shl (a_0.1, a_0.2.1, ()) (IntKind.i64.wrap (0 - n_1))).bind fun r_6 =>
  some ((r_6.1.1, ()), ())
 else
 bif (decide (n_1 = 0)) then
  some (((a_0.1, a_0.2.1, ()), ()), ())
 else
 bif (decide (n_1 ≥ 64)) then
  (shrI .u64 a_0.1 (IntKind.i64.wrap (n_1 - 64))).bind fun v_10 =>
  some (((0, v_10, ()), ()), ())
 else
 (shrI .u64 a_0.1 n_1).bind fun v_11 =>
 (shrI .u64 a_0.2.1 n_1).bind fun v_12 =>
 (shlI .u64 a_0.1 (IntKind.i64.wrap (64 - n_1))).bind fun v_14 =>
 some (((v_11, (bitsI .or .u64 v_12 v_14), ()), ()), ())
noncomputable def word_Shr_lv : Nat → ((Int × Int × Unit) → Int → Option (((Int × Int × Unit) × Unit) × (Unit))) × ((Int × Int × Unit) → Int → Option (((Int × Int × Unit) × Unit) × (Unit)))
 | 0 => (fun _ _ => none, fun _ _ => none)
 | k + 1 => (word_Shl_g ((word_Shr_lv k).1) ((word_Shr_lv k).2), word_Shr_g ((word_Shr_lv k).1) ((word_Shr_lv k).2))
noncomputable def word_Shl : (Int × Int × Unit) → Int → Option (((Int × Int × Unit) × Unit) × (Unit)) := (word_Shr_lv 3).1
noncomputable def word_Shr : (Int × Int × Unit) → Int → Option (((Int × Int × Unit) × Unit) × (Unit)) := (word_Shr_lv 3).2

noncomputable def word_Ones (n_0 : Int) : Option (((Int × Int × Unit) × Unit) × (Unit)) :=
 bif (decide (n_0 ≤ 0)) then
  some (((0, 0, ()), ()), ())
 else
 bif (decide (n_0 ≥ 128)) then
  (word_Not (0, 0, ())).bind fun r_3 =>
  some ((r_3.1.1, ()), ())
 else
 (word_Shl (0, 1, ()) n_0).bind fun r_4 =>
 (word_Sub r_4.1.1 (0, 1, ())).bind fun r_5 =>
 some ((r_5.1.1, ()), ())

noncomputable def word_Cmp (a_0 : Int × Int × Unit) (b_1 : Int × Int × Unit) : Option ((Int × Unit) × (Unit)) :=
 (word_Sub (a_0.1, a_0.2.1, ()) (b_1.1, b_1.2.1, ())).bind fun r_1 =>
 bif (decide (a_0.1 = b_1.1) && decide (a_0.2.1 = b_1.2.1)) then
  some ((0, ()), ())
 else
 bif r_1.1.2.1 then
  some (((-1), ()), ())
 else
 some ((1, ()), ())

noncomputable def word_Len (a_0 : Int × Int × Unit) : Option ((Int × Unit) × (Unit)) :=
 bif (decide (a_0.1 > 0)) then
  (bits_Len64 a_0.1).bind fun r_2 =>
  some (((IntKind.i64.wrap (64 + r_2.1.1)), ()), ())
 else
 (bits_Len64 a_0.2.1).bind fun r_4 =>
 some ((r_4.1.1, ()), ())

noncomputable def ref01_Len_s0 (i_3_0 : Int) (p1_0_0 : List Bool) : Option (((Int × Unit) × ((List Bool) × Unit)) ⊕ ((Int × Unit) × (Unit))) :=
 bif (decide (i_3_0 ≥ 0)) then
  (Option.map (fun _ => i_3_0) (ckI i_3_0 128)).bind fun v_2 =>
  (rdI p1_0_0 v_2).bind fun v_3 =>
  bif v_3 then
   some (.inr (((IntKind.i64.wrap (i_3_0 + 1)), ()), ()))
  else
  some (.inl (((IntKind.i64.wrap (i_3_0 - 1)), ()), p1_0_0, ()))
 else
 some (.inr ((0, ()), ()))
noncomputable def ref01_Len (a_0 : List Bool) : Option ((Int × Unit) × (Unit)) :=
 loopR (fun (z : (Int × Unit) × ((List Bool) × Unit)) => ref01_Len_s0 z.1.1 z.2.1) ((127, ()), a_0, ())

noncomputable def word_digit (c_0 : Int) : Option ((Int × Unit) × (Unit)) :=
 let t5_1 : Bool := decide (c_0 ≥ 48)
 guardR t5_1 (some ()) () fun _ =>
 guardR t5_1 (some (decide (c_0 ≤ 57))) false fun v_2 =>
 bif (bif t5_1 then v_2 else false) then
  some (((IntKind.i64.wrap (IntKind.u8.wrap (c_0 - 48))), ()), ())
 else
 let t15_6 : Bool := decide (c_0 ≥ 97)
 guardR t15_6 (some ()) () fun _ =>
 guardR t15_6 (some (decide (c_0 ≤ 102))) false fun v_7 =>
 bif (bif t15_6 then v_7 else false) then
  some (((IntKind.i64.wrap ((IntKind.i64.wrap (IntKind.u8.wrap (c_0 - 97))) + 10)), ()), ())
 else
 let t26_12 : Bool := decide (c_0 ≥ 65)
 guardR t26_12 (some ()) () fun _ =>
 guardR t26_12 (some (decide (c_0 ≤ 70))) false fun v_13 =>
 bif (bif t26_12 then v_13 else false) then
  some (((IntKind.i64.wrap ((IntKind.i64.wrap (IntKind.u8.wrap (c_0 - 65))) + 10)), ()), ())
 else
 some ((16, ()), ())

noncomputable def word_Parse_s1 (s_0_1 : List Int) (base_1_1 : Int) (over_7_1 : Bool) (t25_25_1 : Int) (t26_26_1 : Int) (p4_0_1 : Int × Int × Unit) (p6_0_1 : Int × Int × Unit) : Option ((((List Int) × Int × Bool × Int × Int × Unit) × ((Int × Int × Unit) × (Int × Int × Unit) × Unit)) ⊕ (((Int × Int × Unit) × Int × Unit) × (Unit))) :=
 bif (decide (t26_26_1 < t25_25_1)) then
  (rdI s_0_1 t26_26_1).bind fun v_5 =>
  (word_digit v_5).bind fun r_6 =>
  bif (decide (r_6.1.1 ≥ base_1_1)) then
   some (.inr (((0, 0, ()), 4, ()), ()))
  else
  (word_Not (0, 0, ())).bind fun r_8 =>
  (word_Div r_8.1.1 (IntKind.u64.wrap base_1_1)).bind fun r_10 =>
  guardR (!over_7_1) (some (p6_0_1.1, p6_0_1.2.1, ())) (0, 0, ()) fun v_11 =>
  guardR (!over_7_1) (some r_10.1.1) (0, 0, ()) fun v_12 =>
  guardR (!over_7_1) (word_Cmp v_11 v_12) ((0, ()), ()) fun r_13 =>
  guardR (!over_7_1) (some (decide (r_13.1.1 > 0))) false fun v_14 =>
  let t52_15 : Bool := bif over_7_1 then true else v_14
  (word_Mul (p6_0_1.1, p6_0_1.2.1, ()) (0, (IntKind.u64.wrap base_1_1), ())).bind fun r_17 =>
  (word_Add r_17.1.1 (0, (IntKind.u64.wrap r_6.1.1), ())).bind fun r_19 =>
  guardR (!t52_15) (some ()) () fun _ =>
  some (.inl ((s_0_1, base_1_1, (bif t52_15 then true else r_19.1.2.1), t25_25_1, (IntKind.i64.wrap (t26_26_1 + 1)), ()), (p4_0_1.1, p4_0_1.2.1, ()), r_19.1.1, ()))
 else
 (bif over_7_1 then
  some (((0, 0, ()), 7, ()), ())
 else
 some (((p6_0_1.1, p6_0_1.2.1, ()), 0, ()), ())).map .inr
noncomputable def word_Parse (s_0 : List Int) (base_1 : Int) : Option (((Int × Int × Unit) × Int × Unit) × (Unit)) :=
 (word_based base_1).bind fun r_1 =>
 bif !r_1.1.1 then
  some (((0, 0, ()), 1, ()), ())
 else
 bif (decide (s_0 = [])) then
  some (((0, 0, ()), 3, ()), ())
 else
 loopR (fun (z : ((List Int) × Int × Bool × Int × Int × Unit) × ((Int × Int × Unit) × (Int × Int × Unit) × Unit)) => word_Parse_s1 z.1.1 z.1.2.1 z.1.2.2.1 z.1.2.2.2.1 z.1.2.2.2.2.1 z.2.1 z.2.2.1) ((s_0, base_1, false, (s_0.length : Int), 0, ()), (0, 0, ()), (0, 0, ()), ())

noncomputable def ref01_small (n_0 : Int) : Option (((List Bool) × Unit) × (Unit)) :=
 (ref01_Of 0 (IntKind.u64.wrap n_0)).bind fun r_2 =>
 some ((r_2.1.1, ()), ())

noncomputable def ref01_Parse_s2 (s_0_2 : List Int) (base_1_2 : Int) (over_7_2 : Bool) (i_8_2 : Int) (d_9_2 : Int) (k_10_2 : Int) (p4_0_2 : List Bool) (p6_0_2 : List Bool) : Option ((((List Int) × Int × Bool × Int × Int × Int × Unit) × ((List Bool) × (List Bool) × Unit)) ⊕ ((((List Int) × Int × Bool × Int × Unit) × ((List Bool) × (List Bool) × Unit)) ⊕ (((List Bool) × Int × Unit) × (Unit)))) :=
 bif (decide (k_10_2 < base_1_2)) then
  (rdI s_0_2 i_8_2).bind fun v_8 =>
  (rdI [48, 49, 50, 51, 52, 53, 54, 55, 56, 57, 97, 98, 99, 100, 101, 102] k_10_2).bind fun v_9 =>
  let t41_10 : Bool := decide (v_8 = v_9)
  guardR (!t41_10) (some ()) () fun _ =>
  guardR (!t41_10) (some ()) () fun _ =>
  guardR (!t41_10) (rdI s_0_2 i_8_2) 0 fun v_11 =>
  guardR (!t41_10) (some ()) () fun _ =>
  guardR (!t41_10) (rdI [48, 49, 50, 51, 52, 53, 54, 55, 56, 57, 65, 66, 67, 68, 69, 70] k_10_2) 0 fun v_12 =>
  guardR (!t41_10) (some (decide (v_11 = v_12))) false fun v_13 =>
  bif (bif t41_10 then true else v_13) then
   some (.inl ((s_0_2, base_1_2, over_7_2, i_8_2, k_10_2, (IntKind.i64.wrap (k_10_2 + 1)), ()), p4_0_2, p6_0_2, ()))
  else
  some (.inl ((s_0_2, base_1_2, over_7_2, i_8_2, d_9_2, (IntKind.i64.wrap (k_10_2 + 1)), ()), p4_0_2, p6_0_2, ()))
 else
 (bif (decide (d_9_2 = 99)) then
  some (.inr (([false, false, false, false, false, false, false, false, false, false, false, false, false, false, false, false, false, false, false, false, false, false, false, false, false, false, false, false, false, false, false, false, false, false, false, false, false, false, false, false, false, false, false, false, false, false, false, false, false, false, false, false, false, false, false, false, false, false, false, false, false, false, false, false, false, false, false, false, false, false, false, false, false, false, false, false, false, false, false, false, false, false, false, false, false, false, false, false, false, false, false, false, false, false, false, false, false, false, false, false, false, false, false, false, false, false, false, false, false, false, false, false, false, false, false, false, false, false, false, false, false, false, false, false, false, false, false, false], 4, ()), ()))
 else
 bif !over_7_2 then
  (ref01_Turned [false, false, false, false, false, false, false, false, false, false, false, false, false, false, false, false, false, false, false, false, false, false, false, false, false, false, false, false, false, false, false, false, false, false, false, false, false, false, false, false, false, false, false, false, false, false, false, false, false, false, false, false, false, false, false, false, false, false, false, false, false, false, false, false, false, false, false, false, false, false, false, false, false, false, false, false, false, false, false, false, false, false, false, false, false, false, false, false, false, false, false, false, false, false, false, false, false, false, false, false, false, false, false, false, false, false, false, false, false, false, false, false, false, false, false, false, false, false, false, false, false, false, false, false, false, false, false, false]).bind fun r_18 =>
  (ref01_small base_1_2).bind fun r_19 =>
  (ref01_Part r_18.1.1 r_19.1.1).bind fun r_20 =>
  (ref01_Less r_20.1.1 p6_0_2).bind fun r_21 =>
  (ref01_small base_1_2).bind fun r_22 =>
  (ref01_Product p6_0_2 r_22.1.1).bind fun r_23 =>
  (ref01_small d_9_2).bind fun r_24 =>
  (ref01_Sum r_23.1.1 r_24.1.1 false).bind fun r_25 =>
  guardR (!r_21.1.1) (some ()) () fun _ =>
  some (.inl ((s_0_2, base_1_2, (bif r_21.1.1 then true else r_25.1.2.1), (IntKind.i64.wrap (i_8_2 + 1)), ()), p4_0_2, r_25.1.1, ()))
 else
 some (.inl ((s_0_2, base_1_2, over_7_2, (IntKind.i64.wrap (i_8_2 + 1)), ()), p4_0_2, p6_0_2, ()))).map .inr
noncomputable def ref01_Parse_s0 (s_0_0 : List Int) (base_1_0 : Int) (over_7_0 : Bool) (i_8_0 : Int) (p4_0_0 : List Bool) (p6_0_0 : List Bool) : Option ((((List Int) × Int × Bool × Int × Unit) × ((List Bool) × (List Bool) × Unit)) ⊕ (((List Bool) × Int × Unit) × (Unit))) :=
 bif (decide (i_8_0 < (s_0_0.length : Int))) then
  loopR (fun (z : ((List Int) × Int × Bool × Int × Int × Int × Unit) × ((List Bool) × (List Bool) × Unit)) => ref01_Parse_s2 z.1.1 z.1.2.1 z.1.2.2.1 z.1.2.2.2.1 z.1.2.2.2.2.1 z.1.2.2.2.2.2.1 z.2.1 z.2.2.1) ((s_0_0, base_1_0, over_7_0, i_8_0, 99, 0, ()), p4_0_0, p6_0_0, ())
 else
 (bif over_7_0 then
  some (([false, false, false, false, false, false, false, false, false, false, false, false, false, false, false, false, false, false, false, false, false, false, false, false, false, false, false, false, false, false, false, false, false, false, false, false, false, false, false, false, false, false, false, false, false, false, false, false, false, false, false, false, false, false, false, false, false, false, false, false, false, false, false, false, false, false, false, false, false, false, false, false, false, false, false, false, false, false, false, false, false, false, false, false, false, false, false, false, false, false, false, false, false, false, false, false, false, false, false, false, false, false, false, false, false, false, false, false, false, false, false, false, false, false, false, false, false, false, false, false, false, false, false, false, false, false, false, false], 7, ()), ())
 else
 some ((p6_0_0, 0, ()), ())).map .inr
noncomputable def ref01_Parse (s_0 : List Int) (base_1 : Int) : Option (((List Bool) × Int × Unit) × (Unit)) :=
 let t16_1 : Bool := decide (base_1 < 2)
 guardR (!t16_1) (some ()) () fun _ =>
 guardR (!t16_1) (some (decide (base_1 > 16))) false fun v_2 =>
 bif (bif t16_1 then true else v_2) then
  some (([false, false, false, false, false, false, false, false, false, false, false, false, false, false, false, false, false, false, false, false, false, false, false, false, false, false, false, false, false, false, false, false, false, false, false, false, false, false, false, false, false, false, false, false, false, false, false, false, false, false, false, false, false, false, false, false, false, false, false, false, false, false, false, false, false, false, false, false, false, false, false, false, false, false, false, false, false, false, false, false, false, false, false, false, false, false, false, false, false, false, false, false, false, false, false, false, false, false, false, false, false, false, false, false, false, false, false, false, false, false, false, false, false, false, false, false, false, false, false, false, false, false, false, false, false, false, false, false], 1, ()), ())
 else
 bif (decide (s_0 = [])) then
  some (([false, false, false, false, false, false, false, false, false, false, false, false, false, false, false, false, false, false, false, false, false, false, false, false, false, false, false, false, false, false, false, false, false, false, false, false, false, false, false, false, false, false, false, false, false, false, false, false, false, false, false, false, false, false, false, false, false, false, false, false, false, false, false, false, false, false, false, false, false, false, false, false, false, false, false, false, false, false, false, false, false, false, false, false, false, false, false, false, false, false, false, false, false, false, false, false, false, false, false, false, false, false, false, false, false, false, false, false, false, false, false, false, false, false, false, false, false, false, false, false, false, false, false, false, false, false, false, false], 3, ()), ())
 else
 loopR (fun (z : ((List Int) × Int × Bool × Int × Unit) × ((List Bool) × (List Bool) × Unit)) => ref01_Parse_s0 z.1.1 z.1.2.1 z.1.2.2.1 z.1.2.2.2.1 z.2.1 z.2.2.1) ((s_0, base_1, false, 0, ()), List.replicate 128 false, List.replicate 128 false, ())

noncomputable def ref01_Halves_s0 (hi_4_0 : Int) (lo_5_0 : Int) (i_6_0 : Int) (p1_0_0 : List Bool) : Option (((Int × Int × Int × Unit) × ((List Bool) × Unit)) ⊕ ((Int × Int × Unit) × (Unit))) :=
 bif (decide (i_6_0 ≥ 0)) then
  let t12_2 : Int := IntKind.u64.wrap (2 * hi_4_0)
  let t14_3 : Int := IntKind.u64.wrap (2 * lo_5_0)
  let t16_4 : Int := IntKind.i64.wrap (i_6_0 + 64)
  (Option.map (fun _ => t16_4) (ckI t16_4 128)).bind fun v_5 =>
  (rdI p1_0_0 v_5).bind fun v_6 =>
  bif v_6 then
   let t20_7 : Int := IntKind.u64.wrap (t12_2 + 1)
   (Option.map (fun _ => i_6_0) (ckI i_6_0 128)).bind fun v_8 =>
   (rdI p1_0_0 v_8).bind fun v_9 =>
   bif v_9 then
    some (.inl ((t20_7, (IntKind.u64.wrap (t14_3 + 1)), (IntKind.i64.wrap (i_6_0 - 1)), ()), p1_0_0, ()))
   else
   some (.inl ((t20_7, t14_3, (IntKind.i64.wrap (i_6_0 - 1)), ()), p1_0_0, ()))
  else
  (Option.map (fun _ => i_6_0) (ckI i_6_0 128)).bind fun v_13 =>
  (rdI p1_0_0 v_13).bind fun v_14 =>
  bif v_14 then
   some (.inl ((t12_2, (IntKind.u64.wrap (t14_3 + 1)), (IntKind.i64.wrap (i_6_0 - 1)), ()), p1_0_0, ()))
  else
  some (.inl ((t12_2, t14_3, (IntKind.i64.wrap (i_6_0 - 1)), ()), p1_0_0, ()))
 else
 some (.inr ((hi_4_0, lo_5_0, ()), ()))
noncomputable def ref01_Halves (r_0 : List Bool) : Option ((Int × Int × Unit) × (Unit)) :=
 loopR (fun (z : (Int × Int × Int × Unit) × ((List Bool) × Unit)) => ref01_Halves_s0 z.1.1 z.1.2.1 z.1.2.2.1 z.2.1) ((0, 0, 63, ()), r_0, ())

noncomputable def ref01_Text_s0 (base_1_0 : Int) (s_5_0 : List Int) (p2_0_0 : List Bool) : Option (((Int × (List Int) × Unit) × ((List Bool) × Unit)) ⊕ (((List Int) × Unit) × (Unit))) :=
 (ref01_Len p2_0_0).bind fun r_1 =>
 let t12_2 : Bool := decide (r_1.1.1 > 0)
 guardR (!t12_2) (some ()) () fun _ =>
 guardR (!t12_2) (some (decide (s_5_0 = []))) false fun v_3 =>
 bif (bif t12_2 then true else v_3) then
  (ref01_small base_1_0).bind fun r_5 =>
  (ref01_Part p2_0_0 r_5.1.1).bind fun r_6 =>
  (ref01_Halves r_6.1.2.1).bind fun r_7 =>
  (subL [48, 49, 50, 51, 52, 53, 54, 55, 56, 57, 97, 98, 99, 100, 101, 102] r_7.1.2.1 (IntKind.u64.wrap (r_7.1.2.1 + 1))).bind fun v_9 =>
  (catI v_9 s_5_0).bind fun v_10 =>
  some (.inl ((base_1_0, v_10, ()), r_6.1.1, ()))
 else
 some (.inr ((s_5_0, ()), ()))
noncomputable def ref01_Text (a_0 : List Bool) (base_1 : Int) : Option (((List Int) × Unit) × (Unit)) :=
 loopR (fun (z : (Int × (List Int) × Unit) × ((List Bool) × Unit)) => ref01_Text_s0 z.1.1 z.1.2.1 z.2.1) ((base_1, [], ()), a_0, ())

end Go.L

namespace Go.L
open Go Go.Pv
set_option maxRecDepth 100000

noncomputable def vec_width (w_0 : Int) : Option ((Bool × Unit) × (Unit)) :=
 let t4_1 : Bool := decide (w_0 ≥ 1)
 guardR t4_1 (some ()) () fun _ =>
 guardR t4_1 (some (decide (w_0 ≤ 128))) false fun v_2 =>
 some (((bif t4_1 then v_2 else false), ()), ())

noncomputable def vec_Word (v_0 : Int × Int × Int × Unit) : Option (((Int × Int × Unit) × Unit) × (Unit)) :=
 some (((v_0.2.1, v_0.2.2.1, ()), ()), ())

noncomputable def vec_May (v_0 : Int × Int × Int × Unit) : Option ((Bool × Unit) × (Unit)) :=
 (vec_width v_0.1).bind fun r_1 =>
 guardR r_1.1.1 (some (v_0.1, v_0.2.1, v_0.2.2.1, ())) (0, 0, 0, ()) fun v_2 =>
 guardR r_1.1.1 (vec_Word v_2) (((0, 0, ()), ()), ()) fun r_3 =>
 guardR r_1.1.1 (word_Len r_3.1.1) ((0, ()), ()) fun r_4 =>
 guardR r_1.1.1 (some ()) () fun _ =>
 guardR r_1.1.1 (some v_0.1) 0 fun v_5 =>
 guardR r_1.1.1 (some (decide (r_4.1.1 ≤ v_5))) false fun v_6 =>
 some (((bif r_1.1.1 then v_6 else false), ()), ())

noncomputable def ref02_Bits_s0 (l_4_0 : List Bool) (i_5_0 : Int) (p1_0_0 : Int × Int × Int × Unit) (p3_0_0 : List Bool) : Option ((((List Bool) × Int × Unit) × ((Int × Int × Int × Unit) × (List Bool) × Unit)) ⊕ (((List Bool) × Unit) × (Unit))) :=
 let t14_2 : Bool := decide (i_5_0 < p1_0_0.1)
 guardR t14_2 (some ()) () fun _ =>
 guardR t14_2 (some (decide (i_5_0 < 128))) false fun v_3 =>
 bif (bif t14_2 then v_3 else false) then
  (Option.map (fun _ => i_5_0) (ckI i_5_0 128)).bind fun v_5 =>
  (rdI p3_0_0 v_5).bind fun v_6 =>
  (roomI 1 l_4_0 [v_6]).bind fun v_7 =>
  some (.inl ((v_7, (IntKind.i64.wrap (i_5_0 + 1)), ()), (p1_0_0.1, p1_0_0.2.1, p1_0_0.2.2.1, ()), p3_0_0, ()))
 else
 some (.inr ((l_4_0, ()), ()))
noncomputable def ref02_Bits (v_0 : Int × Int × Int × Unit) : Option (((List Bool) × Unit) × (Unit)) :=
 (ref01_Of v_0.2.1 v_0.2.2.1).bind fun r_1 =>
 loopR (fun (z : ((List Bool) × Int × Unit) × ((Int × Int × Int × Unit) × (List Bool) × Unit)) => ref02_Bits_s0 z.1.1 z.1.2.1 z.2.1 z.2.2.1) (([], 0, ()), (v_0.1, v_0.2.1, v_0.2.2.1, ()), r_1.1.1, ())

noncomputable def ref02_May (v_0 : Int × Int × Int × Unit) : Option ((Bool × Unit) × (Unit)) :=
 let t5_1 : Bool := decide (v_0.1 ≥ 1)
 guardR t5_1 (some ()) () fun _ =>
 guardR t5_1 (some v_0.1) 0 fun v_2 =>
 guardR t5_1 (some (decide (v_2 ≤ 128))) false fun v_3 =>
 let t10_4 : Bool := bif t5_1 then v_3 else false
 guardR t10_4 (some ()) () fun _ =>
 guardR t10_4 (some v_0.2.1) 0 fun v_5 =>
 guardR t10_4 (some ()) () fun _ =>
 guardR t10_4 (some v_0.2.2.1) 0 fun v_6 =>
 guardR t10_4 (ref01_Of v_5 v_6) ((List.replicate 128 false, ()), ()) fun r_7 =>
 guardR t10_4 (ref01_Len r_7.1.1) ((0, ()), ()) fun r_8 =>
 guardR t10_4 (some ()) () fun _ =>
 guardR t10_4 (some v_0.1) 0 fun v_9 =>
 guardR t10_4 (some (decide (r_8.1.1 ≤ v_9))) false fun v_10 =>
 some (((bif t10_4 then v_10 else false), ()), ())

noncomputable def vec_row (w_0 : Int) (x_1 : Int × Int × Unit) : Option (((Int × Int × Int × Unit) × Unit) × (Unit)) :=
 some (((w_0, x_1.1, x_1.2.1, ()), ()), ())

noncomputable def vec_Cut (w_0 : Int) (x_1 : Int × Int × Unit) : Option (((Int × Int × Int × Unit) × Int × Unit) × (Unit)) :=
 (vec_width w_0).bind fun r_1 =>
 bif !r_1.1.1 then
  some (((0, 0, 0, ()), 9, ()), ())
 else
 (word_Ones w_0).bind fun r_2 =>
 (word_And (x_1.1, x_1.2.1, ()) r_2.1.1).bind fun r_3 =>
 (vec_row w_0 r_3.1.1).bind fun r_4 =>
 some ((r_4.1.1, 0, ()), ())

noncomputable def vec_Slice (a_0 : Int × Int × Int × Unit) (hi_1 : Int) (lo_2 : Int) : Option (((Int × Int × Int × Unit) × Int × Unit) × (Unit)) :=
 (vec_May (a_0.1, a_0.2.1, a_0.2.2.1, ())).bind fun r_1 =>
 bif !r_1.1.1 then
  some (((0, 0, 0, ()), 1, ()), ())
 else
 let t15_2 : Bool := decide (lo_2 < 0)
 guardR (!t15_2) (some ()) () fun _ =>
 guardR (!t15_2) (some ()) () fun _ =>
 guardR (!t15_2) (some (decide (lo_2 > hi_1))) false fun v_3 =>
 let t20_4 : Bool := bif t15_2 then true else v_3
 guardR (!t20_4) (some ()) () fun _ =>
 guardR (!t20_4) (some ()) () fun _ =>
 guardR (!t20_4) (some a_0.1) 0 fun v_5 =>
 guardR (!t20_4) (some (decide (hi_1 ≥ v_5))) false fun v_6 =>
 bif (bif t20_4 then true else v_6) then
  some (((0, 0, 0, ()), 7, ()), ())
 else
 (vec_Word (a_0.1, a_0.2.1, a_0.2.2.1, ())).bind fun r_10 =>
 (word_Shr r_10.1.1 lo_2).bind fun r_11 =>
 (vec_Cut (IntKind.i64.wrap ((IntKind.i64.wrap (hi_1 - lo_2)) + 1)) r_11.1.1).bind fun r_12 =>
 some ((r_12.1.1, r_12.1.2.1, ()), ())

noncomputable def ref02_Of_s0 (l_0_0 : List Bool) (i_4_0 : Int) (p2_0_0 : Int × Int × Int × Unit) (p3_0_0 : List Bool) : Option ((((List Bool) × Int × Unit) × ((Int × Int × Int × Unit) × (List Bool) × Unit)) ⊕ (((Int × Int × Int × Unit) × Unit) × (Unit))) :=
 let t10_2 : Bool := decide (i_4_0 < (l_0_0.length : Int))
 guardR t10_2 (some ()) () fun _ =>
 guardR t10_2 (some (decide (i_4_0 < 128))) false fun v_3 =>
 bif (bif t10_2 then v_3 else false) then
  (rdI l_0_0 i_4_0).bind fun v_5 =>
  (Option.map (fun _ => i_4_0) (ckI i_4_0 128)).bind fun v_6 =>
  (stI p3_0_0 v_6 v_5).bind fun v_7 =>
  some (.inl ((l_0_0, (IntKind.i64.wrap (i_4_0 + 1)), ()), (p2_0_0.1, p2_0_0.2.1, p2_0_0.2.2.1, ()), v_7, ()))
 else
 ((ref01_Halves p3_0_0).bind fun r_9 =>
 some ((((l_0_0.length : Int), r_9.1.1, r_9.1.2.1, ()), ()), ())).map .inr
noncomputable def ref02_Of (l_0 : List Bool) : Option (((Int × Int × Int × Unit) × Unit) × (Unit)) :=
 loopR (fun (z : ((List Bool) × Int × Unit) × ((Int × Int × Int × Unit) × (List Bool) × Unit)) => ref02_Of_s0 z.1.1 z.1.2.1 z.2.1 z.2.2.1) ((l_0, 0, ()), (0, 0, 0, ()), List.replicate 128 false, ())

noncomputable def ref02_Slice (a_0 : Int × Int × Int × Unit) (hi_1 : Int) (lo_2 : Int) : Option (((Int × Int × Int × Unit) × Int × Unit) × (Unit)) :=
 (ref02_May (a_0.1, a_0.2.1, a_0.2.2.1, ())).bind fun r_1 =>
 bif !r_1.1.1 then
  some (((0, 0, 0, ()), 1, ()), ())
 else
 let t13_2 : Bool := decide (lo_2 < 0)
 guardR (!t13_2) (some ()) () fun _ =>
 guardR (!t13_2) (some ()) () fun _ =>
 guardR (!t13_2) (some (decide (lo_2 > hi_1))) false fun v_3 =>
 let t18_4 : Bool := bif t13_2 then true else v_3
 guardR (!t18_4) (some ()) () fun _ =>
 guardR (!t18_4) (some ()) () fun _ =>
 guardR (!t18_4) (some a_0.1) 0 fun v_5 =>
 guardR (!t18_4) (some (decide (hi_1 ≥ v_5))) false fun v_6 =>
 bif (bif t18_4 then true else v_6) then
  some (((0, 0, 0, ()), 7, ()), ())
 else
 (ref02_Bits (a_0.1, a_0.2.1, a_0.2.2.1, ())).bind fun r_8 =>
 (subL r_8.1.1 lo_2 (IntKind.i64.wrap (hi_1 + 1))).bind fun v_10 =>
 (ref02_Of v_10).bind fun r_11 =>
 some ((r_11.1.1, 0, ()), ())

noncomputable def vec_two_d65 (a_0 : Int × Int × Int × Unit) (b_1 : Int × Int × Int × Unit) : Option (((Int × Int × Int × Unit) × Int × Unit) × (Unit)) :=
 (vec_May (a_0.1, a_0.2.1, a_0.2.2.1, ())).bind fun r_1 =>
 guardR (!(!r_1.1.1)) (some (b_1.1, b_1.2.1, b_1.2.2.1, ())) (0, 0, 0, ()) fun v_2 =>
 guardR (!(!r_1.1.1)) (vec_May v_2) ((false, ()), ()) fun r_3 =>
 guardR (!(!r_1.1.1)) (some ()) () fun _ =>
 bif (bif !r_1.1.1 then true else !r_3.1.1) then
  some (((0, 0, 0, ()), 1, ()), ())
 else
 bif (!decide (a_0.1 = b_1.1)) then
  some (((0, 0, 0, ()), 9, ()), ())
 else
 (vec_Word (a_0.1, a_0.2.1, a_0.2.2.1, ())).bind fun r_6 =>
 (vec_Word (b_1.1, b_1.2.1, b_1.2.2.1, ())).bind fun r_7 =>
 (word_And r_6.1.1 r_7.1.1).bind fun r_8 =>
 (vec_Cut a_0.1 r_8.1.1).bind fun r_9 =>
 some ((r_9.1.1, r_9.1.2.1, ()), ())

noncomputable def vec_Text (a_0 : Int × Int × Int × Unit) : Option (((List Int) × Unit) × (Unit)) :=
 (vec_May (a_0.1, a_0.2.1, a_0.2.2.1, ())).bind fun r_1 =>
 bif !r_1.1.1 then
  some (([], ()), ())
 else
 (word_Text (0, (IntKind.u64.wrap a_0.1), ()) 10).bind fun r_3 =>
 (catI r_3.1.1 [39]).bind fun v_4 =>
 (vec_Word (a_0.1, a_0.2.1, a_0.2.2.1, ())).bind fun r_5 =>
 (word_Text r_5.1.1 16).bind fun r_6 =>
 (catI v_4 r_6.1.1).bind fun v_7 =>
 some ((v_7, ()), ())

noncomputable def vec_Less_1 (c_0 : Int) : Option ((Bool × Unit) × (Unit)) :=
 some (((decide (c_0 < 0)), ()), ())

noncomputable def vec_Truth (b_0 : Bool) : Option (((Int × Int × Int × Unit) × Unit) × (Unit)) :=
 bif b_0 then
  some (((1, 0, 1, ()), ()), ())
 else
 some (((1, 0, 0, ()), ()), ())

noncomputable def vec_told_44b (a_0 : Int × Int × Int × Unit) (b_1 : Int × Int × Int × Unit) : Option (((Int × Int × Int × Unit) × Int × Unit) × (Unit)) :=
 (vec_two_d65 (a_0.1, a_0.2.1, a_0.2.2.1, ()) (b_1.1, b_1.2.1, b_1.2.2.1, ())).bind fun r_1 =>
 bif (!decide (r_1.1.2.1 = 0)) then
  some (((0, 0, 0, ()), r_1.1.2.1, ()), ())
 else
 (vec_Word (a_0.1, a_0.2.1, a_0.2.2.1, ())).bind fun r_3 =>
 (vec_Word (b_1.1, b_1.2.1, b_1.2.2.1, ())).bind fun r_4 =>
 (word_Cmp r_3.1.1 r_4.1.1).bind fun r_5 =>
 (vec_Less_1 r_5.1.1).bind fun r_6 =>
 (vec_Truth r_6.1.1).bind fun r_7 =>
 some ((r_7.1.1, 0, ()), ())

noncomputable def vec_Less (a_0 : Int × Int × Int × Unit) (b_1 : Int × Int × Int × Unit) : Option (((Int × Int × Int × Unit) × Int × Unit) × (Unit)) :=
 (vec_told_44b (a_0.1, a_0.2.1, a_0.2.2.1, ()) (b_1.1, b_1.2.1, b_1.2.2.1, ())).bind fun r_1 =>
 some ((r_1.1.1, r_1.1.2.1, ()), ())

noncomputable def vec_Within (a_0 : Int × Int × Int × Unit) (lo_1 : Int × Int × Int × Unit) (hi_2 : Int × Int × Int × Unit) : Option ((Bool × Unit) × (Unit)) :=
 (vec_Less (a_0.1, a_0.2.1, a_0.2.2.1, ()) (lo_1.1, lo_1.2.1, lo_1.2.2.1, ())).bind fun r_1 =>
 (vec_Less (hi_2.1, hi_2.2.1, hi_2.2.2.1, ()) (a_0.1, a_0.2.1, a_0.2.2.1, ())).bind fun r_2 =>
 let t24_3 : Bool := decide (r_1.1.2.1 = 0)
 guardR t24_3 (some ()) () fun _ =>
 guardR t24_3 (some (decide (r_2.1.2.1 = 0))) false fun v_4 =>
 let t28_5 : Bool := bif t24_3 then v_4 else false
 guardR t28_5 (some ()) () fun _ =>
 guardR t28_5 (some r_1.1.1.2.2.1) 0 fun v_6 =>
 guardR t28_5 (some (decide (v_6 = 0))) false fun v_7 =>
 let t33_8 : Bool := bif t28_5 then v_7 else false
 guardR t33_8 (some ()) () fun _ =>
 guardR t33_8 (some r_2.1.1.2.2.1) 0 fun v_9 =>
 guardR t33_8 (some (decide (v_9 = 0))) false fun v_10 =>
 some (((bif t33_8 then v_10 else false), ()), ())

noncomputable def ref02_Two_s4 (op_0_4 : List Int) (less_10_4 : Bool) (out_13_4 : List Bool) (carry_14_4 : Bool) (i_20_4 : Int) (p6_0_4 : Int × Int × Int × Unit) : Option ((((List Int) × Bool × (List Bool) × Bool × Int × Unit) × ((Int × Int × Int × Unit) × Unit)) ⊕ (((Int × Int × Int × Unit) × Int × Unit) × (Unit))) :=
 bif (decide (i_20_4 < (out_13_4.length : Int))) then
  let t139_579 : Bool := decide (op_0_4 = [97, 100, 100, 115, 97, 116])
  guardR t139_579 (some ()) () fun _ =>
  bif (bif t139_579 then carry_14_4 else false) then
   (Option.map (fun _ => i_20_4) (ckI i_20_4 out_13_4.length)).bind fun v_581 =>
   (stI out_13_4 v_581 true).bind fun v_582 =>
   let t147_583 : Bool := decide (op_0_4 = [115, 117, 98, 115, 97, 116])
   guardR t147_583 (some ()) () fun _ =>
   bif (bif t147_583 then less_10_4 else false) then
    (Option.map (fun _ => i_20_4) (ckI i_20_4 v_582.length)).bind fun v_585 =>
    (stI v_582 v_585 false).bind fun v_586 =>
    some (.inl ((op_0_4, less_10_4, v_586, carry_14_4, (IntKind.i64.wrap (i_20_4 + 1)), ()), (p6_0_4.1, p6_0_4.2.1, p6_0_4.2.2.1, ()), ()))
   else
   some (.inl ((op_0_4, less_10_4, v_582, carry_14_4, (IntKind.i64.wrap (i_20_4 + 1)), ()), (p6_0_4.1, p6_0_4.2.1, p6_0_4.2.2.1, ()), ()))
  else
  let t147_589 : Bool := decide (op_0_4 = [115, 117, 98, 115, 97, 116])
  guardR t147_589 (some ()) () fun _ =>
  bif (bif t147_589 then less_10_4 else false) then
   (Option.map (fun _ => i_20_4) (ckI i_20_4 out_13_4.length)).bind fun v_591 =>
   (stI out_13_4 v_591 false).bind fun v_592 =>
   some (.inl ((op_0_4, less_10_4, v_592, carry_14_4, (IntKind.i64.wrap (i_20_4 + 1)), ()), (p6_0_4.1, p6_0_4.2.1, p6_0_4.2.2.1, ()), ()))
  else
  some (.inl ((op_0_4, less_10_4, out_13_4, carry_14_4, (IntKind.i64.wrap (i_20_4 + 1)), ()), (p6_0_4.1, p6_0_4.2.1, p6_0_4.2.2.1, ()), ()))
 else
 ((ref02_Of out_13_4).bind fun r_595 =>
 some ((r_595.1.1, 0, ()), ())).map .inr
noncomputable def ref02_Two_s2 (op_0_2 : List Int) (x_8_2 : List Bool) (y_9_2 : List Bool) (less_10_2 : Bool) (out_13_2 : List Bool) (carry_14_2 : Bool) (i_15_2 : Int) (p6_0_2 : Int × Int × Int × Unit) : Option ((((List Int) × (List Bool) × (List Bool) × Bool × (List Bool) × Bool × Int × Unit) × ((Int × Int × Int × Unit) × Unit)) ⊕ (((Int × Int × Int × Unit) × Int × Unit) × (Unit))) :=
 bif (decide (i_15_2 < (x_8_2.length : Int))) then
  (Option.map (fun _ => i_15_2) (ckI i_15_2 x_8_2.length)).bind fun v_28 =>
  (rdI x_8_2 v_28).bind fun v_29 =>
  (Option.map (fun _ => i_15_2) (ckI i_15_2 y_9_2.length)).bind fun v_30 =>
  (rdI y_9_2 v_30).bind fun v_31 =>
  let t90_32 : Bool := decide (op_0_2 = [115, 117, 98])
  guardR (!t90_32) (some ()) () fun _ =>
  guardR (!t90_32) (some (decide (op_0_2 = [115, 117, 98, 115, 97, 116]))) false fun v_33 =>
  bif (bif t90_32 then true else v_33) then
   bif v_29 then
    let t99_35 : Int := IntKind.i64.wrap (0 + 1)
    bif !v_31 then
     let t102_36 : Int := IntKind.i64.wrap (t99_35 + 1)
     bif carry_14_2 then
      let t105_37 : Int := IntKind.i64.wrap (t102_36 + 1)
      let t110_40 : Bool := decide (t105_37 ≥ 2)
      bif (decide (op_0_2 = [97, 110, 100])) then
       guardR v_29 (some ()) () fun _ =>
       bif (decide (op_0_2 = [111, 114])) then
        guardR (!v_29) (some ()) () fun _ =>
        bif (decide (op_0_2 = [120, 111, 114])) then
         (roomI 1 out_13_2 [(!(decide (v_29 = (!v_31))))]).bind fun v_47 =>
         some (.inl ((op_0_2, x_8_2, y_9_2, less_10_2, v_47, t110_40, (IntKind.i64.wrap (i_15_2 + 1)), ()), (p6_0_2.1, p6_0_2.2.1, p6_0_2.2.2.1, ()), ()))
        else
        (roomI 1 out_13_2 [(bif v_29 then true else !v_31)]).bind fun v_49 =>
        some (.inl ((op_0_2, x_8_2, y_9_2, less_10_2, v_49, t110_40, (IntKind.i64.wrap (i_15_2 + 1)), ()), (p6_0_2.1, p6_0_2.2.1, p6_0_2.2.2.1, ()), ()))
       else
       bif (decide (op_0_2 = [120, 111, 114])) then
        (roomI 1 out_13_2 [(!(decide (v_29 = (!v_31))))]).bind fun v_53 =>
        some (.inl ((op_0_2, x_8_2, y_9_2, less_10_2, v_53, t110_40, (IntKind.i64.wrap (i_15_2 + 1)), ()), (p6_0_2.1, p6_0_2.2.1, p6_0_2.2.2.1, ()), ()))
       else
       (roomI 1 out_13_2 [(bif v_29 then !v_31 else false)]).bind fun v_55 =>
       some (.inl ((op_0_2, x_8_2, y_9_2, less_10_2, v_55, t110_40, (IntKind.i64.wrap (i_15_2 + 1)), ()), (p6_0_2.1, p6_0_2.2.1, p6_0_2.2.2.1, ()), ()))
      else
      bif (decide (op_0_2 = [111, 114])) then
       guardR (!v_29) (some ()) () fun _ =>
       bif (decide (op_0_2 = [120, 111, 114])) then
        (roomI 1 out_13_2 [(!(decide (v_29 = (!v_31))))]).bind fun v_61 =>
        some (.inl ((op_0_2, x_8_2, y_9_2, less_10_2, v_61, t110_40, (IntKind.i64.wrap (i_15_2 + 1)), ()), (p6_0_2.1, p6_0_2.2.1, p6_0_2.2.2.1, ()), ()))
       else
       (roomI 1 out_13_2 [(bif v_29 then true else !v_31)]).bind fun v_63 =>
       some (.inl ((op_0_2, x_8_2, y_9_2, less_10_2, v_63, t110_40, (IntKind.i64.wrap (i_15_2 + 1)), ()), (p6_0_2.1, p6_0_2.2.1, p6_0_2.2.2.1, ()), ()))
      else
      bif (decide (op_0_2 = [120, 111, 114])) then
       (roomI 1 out_13_2 [(!(decide (v_29 = (!v_31))))]).bind fun v_67 =>
       some (.inl ((op_0_2, x_8_2, y_9_2, less_10_2, v_67, t110_40, (IntKind.i64.wrap (i_15_2 + 1)), ()), (p6_0_2.1, p6_0_2.2.1, p6_0_2.2.2.1, ()), ()))
      else
      (roomI 1 out_13_2 [(decide ((t105_37.tmod 2) = 1))]).bind fun v_69 =>
      some (.inl ((op_0_2, x_8_2, y_9_2, less_10_2, v_69, t110_40, (IntKind.i64.wrap (i_15_2 + 1)), ()), (p6_0_2.1, p6_0_2.2.1, p6_0_2.2.2.1, ()), ()))
     else
     let t110_73 : Bool := decide (t102_36 ≥ 2)
     bif (decide (op_0_2 = [97, 110, 100])) then
      guardR v_29 (some ()) () fun _ =>
      bif (decide (op_0_2 = [111, 114])) then
       guardR (!v_29) (some ()) () fun _ =>
       bif (decide (op_0_2 = [120, 111, 114])) then
        (roomI 1 out_13_2 [(!(decide (v_29 = (!v_31))))]).bind fun v_80 =>
        some (.inl ((op_0_2, x_8_2, y_9_2, less_10_2, v_80, t110_73, (IntKind.i64.wrap (i_15_2 + 1)), ()), (p6_0_2.1, p6_0_2.2.1, p6_0_2.2.2.1, ()), ()))
       else
       (roomI 1 out_13_2 [(bif v_29 then true else !v_31)]).bind fun v_82 =>
       some (.inl ((op_0_2, x_8_2, y_9_2, less_10_2, v_82, t110_73, (IntKind.i64.wrap (i_15_2 + 1)), ()), (p6_0_2.1, p6_0_2.2.1, p6_0_2.2.2.1, ()), ()))
      else
      bif (decide (op_0_2 = [120, 111, 114])) then
       (roomI 1 out_13_2 [(!(decide (v_29 = (!v_31))))]).bind fun v_86 =>
       some (.inl ((op_0_2, x_8_2, y_9_2, less_10_2, v_86, t110_73, (IntKind.i64.wrap (i_15_2 + 1)), ()), (p6_0_2.1, p6_0_2.2.1, p6_0_2.2.2.1, ()), ()))
      else
      (roomI 1 out_13_2 [(bif v_29 then !v_31 else false)]).bind fun v_88 =>
      some (.inl ((op_0_2, x_8_2, y_9_2, less_10_2, v_88, t110_73, (IntKind.i64.wrap (i_15_2 + 1)), ()), (p6_0_2.1, p6_0_2.2.1, p6_0_2.2.2.1, ()), ()))
     else
     bif (decide (op_0_2 = [111, 114])) then
      guardR (!v_29) (some ()) () fun _ =>
      bif (decide (op_0_2 = [120, 111, 114])) then
       (roomI 1 out_13_2 [(!(decide (v_29 = (!v_31))))]).bind fun v_94 =>
       some (.inl ((op_0_2, x_8_2, y_9_2, less_10_2, v_94, t110_73, (IntKind.i64.wrap (i_15_2 + 1)), ()), (p6_0_2.1, p6_0_2.2.1, p6_0_2.2.2.1, ()), ()))
      else
      (roomI 1 out_13_2 [(bif v_29 then true else !v_31)]).bind fun v_96 =>
      some (.inl ((op_0_2, x_8_2, y_9_2, less_10_2, v_96, t110_73, (IntKind.i64.wrap (i_15_2 + 1)), ()), (p6_0_2.1, p6_0_2.2.1, p6_0_2.2.2.1, ()), ()))
     else
     bif (decide (op_0_2 = [120, 111, 114])) then
      (roomI 1 out_13_2 [(!(decide (v_29 = (!v_31))))]).bind fun v_100 =>
      some (.inl ((op_0_2, x_8_2, y_9_2, less_10_2, v_100, t110_73, (IntKind.i64.wrap (i_15_2 + 1)), ()), (p6_0_2.1, p6_0_2.2.1, p6_0_2.2.2.1, ()), ()))
     else
     (roomI 1 out_13_2 [(decide ((t102_36.tmod 2) = 1))]).bind fun v_102 =>
     some (.inl ((op_0_2, x_8_2, y_9_2, less_10_2, v_102, t110_73, (IntKind.i64.wrap (i_15_2 + 1)), ()), (p6_0_2.1, p6_0_2.2.1, p6_0_2.2.2.1, ()), ()))
    else
    bif carry_14_2 then
     let t105_104 : Int := IntKind.i64.wrap (t99_35 + 1)
     let t110_107 : Bool := decide (t105_104 ≥ 2)
     bif (decide (op_0_2 = [97, 110, 100])) then
      guardR v_29 (some ()) () fun _ =>
      bif (decide (op_0_2 = [111, 114])) then
       guardR (!v_29) (some ()) () fun _ =>
       bif (decide (op_0_2 = [120, 111, 114])) then
        (roomI 1 out_13_2 [(!(decide (v_29 = (!v_31))))]).bind fun v_114 =>
        some (.inl ((op_0_2, x_8_2, y_9_2, less_10_2, v_114, t110_107, (IntKind.i64.wrap (i_15_2 + 1)), ()), (p6_0_2.1, p6_0_2.2.1, p6_0_2.2.2.1, ()), ()))
       else
       (roomI 1 out_13_2 [(bif v_29 then true else !v_31)]).bind fun v_116 =>
       some (.inl ((op_0_2, x_8_2, y_9_2, less_10_2, v_116, t110_107, (IntKind.i64.wrap (i_15_2 + 1)), ()), (p6_0_2.1, p6_0_2.2.1, p6_0_2.2.2.1, ()), ()))
      else
      bif (decide (op_0_2 = [120, 111, 114])) then
       (roomI 1 out_13_2 [(!(decide (v_29 = (!v_31))))]).bind fun v_120 =>
       some (.inl ((op_0_2, x_8_2, y_9_2, less_10_2, v_120, t110_107, (IntKind.i64.wrap (i_15_2 + 1)), ()), (p6_0_2.1, p6_0_2.2.1, p6_0_2.2.2.1, ()), ()))
      else
      (roomI 1 out_13_2 [(bif v_29 then !v_31 else false)]).bind fun v_122 =>
      some (.inl ((op_0_2, x_8_2, y_9_2, less_10_2, v_122, t110_107, (IntKind.i64.wrap (i_15_2 + 1)), ()), (p6_0_2.1, p6_0_2.2.1, p6_0_2.2.2.1, ()), ()))
     else
     bif (decide (op_0_2 = [111, 114])) then
      guardR (!v_29) (some ()) () fun _ =>
      bif (decide (op_0_2 = [120, 111, 114])) then
       (roomI 1 out_13_2 [(!(decide (v_29 = (!v_31))))]).bind fun v_128 =>
       some (.inl ((op_0_2, x_8_2, y_9_2, less_10_2, v_128, t110_107, (IntKind.i64.wrap (i_15_2 + 1)), ()), (p6_0_2.1, p6_0_2.2.1, p6_0_2.2.2.1, ()), ()))
      else
      (roomI 1 out_13_2 [(bif v_29 then true else !v_31)]).bind fun v_130 =>
      some (.inl ((op_0_2, x_8_2, y_9_2, less_10_2, v_130, t110_107, (IntKind.i64.wrap (i_15_2 + 1)), ()), (p6_0_2.1, p6_0_2.2.1, p6_0_2.2.2.1, ()), ()))
     else
     bif (decide (op_0_2 = [120, 111, 114])) then
      (roomI 1 out_13_2 [(!(decide (v_29 = (!v_31))))]).bind fun v_134 =>
      some (.inl ((op_0_2, x_8_2, y_9_2, less_10_2, v_134, t110_107, (IntKind.i64.wrap (i_15_2 + 1)), ()), (p6_0_2.1, p6_0_2.2.1, p6_0_2.2.2.1, ()), ()))
     else
     (roomI 1 out_13_2 [(decide ((t105_104.tmod 2) = 1))]).bind fun v_136 =>
     some (.inl ((op_0_2, x_8_2, y_9_2, less_10_2, v_136, t110_107, (IntKind.i64.wrap (i_15_2 + 1)), ()), (p6_0_2.1, p6_0_2.2.1, p6_0_2.2.2.1, ()), ()))
    else
    let t110_140 : Bool := decide (t99_35 ≥ 2)
    bif (decide (op_0_2 = [97, 110, 100])) then
     guardR v_29 (some ()) () fun _ =>
     bif (decide (op_0_2 = [111, 114])) then
      guardR (!v_29) (some ()) () fun _ =>
      bif (decide (op_0_2 = [120, 111, 114])) then
       (roomI 1 out_13_2 [(!(decide (v_29 = (!v_31))))]).bind fun v_147 =>
       some (.inl ((op_0_2, x_8_2, y_9_2, less_10_2, v_147, t110_140, (IntKind.i64.wrap (i_15_2 + 1)), ()), (p6_0_2.1, p6_0_2.2.1, p6_0_2.2.2.1, ()), ()))
      else
      (roomI 1 out_13_2 [(bif v_29 then true else !v_31)]).bind fun v_149 =>
      some (.inl ((op_0_2, x_8_2, y_9_2, less_10_2, v_149, t110_140, (IntKind.i64.wrap (i_15_2 + 1)), ()), (p6_0_2.1, p6_0_2.2.1, p6_0_2.2.2.1, ()), ()))
     else
     bif (decide (op_0_2 = [120, 111, 114])) then
      (roomI 1 out_13_2 [(!(decide (v_29 = (!v_31))))]).bind fun v_153 =>
      some (.inl ((op_0_2, x_8_2, y_9_2, less_10_2, v_153, t110_140, (IntKind.i64.wrap (i_15_2 + 1)), ()), (p6_0_2.1, p6_0_2.2.1, p6_0_2.2.2.1, ()), ()))
     else
     (roomI 1 out_13_2 [(bif v_29 then !v_31 else false)]).bind fun v_155 =>
     some (.inl ((op_0_2, x_8_2, y_9_2, less_10_2, v_155, t110_140, (IntKind.i64.wrap (i_15_2 + 1)), ()), (p6_0_2.1, p6_0_2.2.1, p6_0_2.2.2.1, ()), ()))
    else
    bif (decide (op_0_2 = [111, 114])) then
     guardR (!v_29) (some ()) () fun _ =>
     bif (decide (op_0_2 = [120, 111, 114])) then
      (roomI 1 out_13_2 [(!(decide (v_29 = (!v_31))))]).bind fun v_161 =>
      some (.inl ((op_0_2, x_8_2, y_9_2, less_10_2, v_161, t110_140, (IntKind.i64.wrap (i_15_2 + 1)), ()), (p6_0_2.1, p6_0_2.2.1, p6_0_2.2.2.1, ()), ()))
     else
     (roomI 1 out_13_2 [(bif v_29 then true else !v_31)]).bind fun v_163 =>
     some (.inl ((op_0_2, x_8_2, y_9_2, less_10_2, v_163, t110_140, (IntKind.i64.wrap (i_15_2 + 1)), ()), (p6_0_2.1, p6_0_2.2.1, p6_0_2.2.2.1, ()), ()))
    else
    bif (decide (op_0_2 = [120, 111, 114])) then
     (roomI 1 out_13_2 [(!(decide (v_29 = (!v_31))))]).bind fun v_167 =>
     some (.inl ((op_0_2, x_8_2, y_9_2, less_10_2, v_167, t110_140, (IntKind.i64.wrap (i_15_2 + 1)), ()), (p6_0_2.1, p6_0_2.2.1, p6_0_2.2.2.1, ()), ()))
    else
    (roomI 1 out_13_2 [(decide ((t99_35.tmod 2) = 1))]).bind fun v_169 =>
    some (.inl ((op_0_2, x_8_2, y_9_2, less_10_2, v_169, t110_140, (IntKind.i64.wrap (i_15_2 + 1)), ()), (p6_0_2.1, p6_0_2.2.1, p6_0_2.2.2.1, ()), ()))
   else
   bif !v_31 then
    let t102_171 : Int := IntKind.i64.wrap (0 + 1)
    bif carry_14_2 then
     let t105_172 : Int := IntKind.i64.wrap (t102_171 + 1)
     let t110_175 : Bool := decide (t105_172 ≥ 2)
     bif (decide (op_0_2 = [97, 110, 100])) then
      guardR v_29 (some ()) () fun _ =>
      bif (decide (op_0_2 = [111, 114])) then
       guardR (!v_29) (some ()) () fun _ =>
       bif (decide (op_0_2 = [120, 111, 114])) then
        (roomI 1 out_13_2 [(!(decide (v_29 = (!v_31))))]).bind fun v_182 =>
        some (.inl ((op_0_2, x_8_2, y_9_2, less_10_2, v_182, t110_175, (IntKind.i64.wrap (i_15_2 + 1)), ()), (p6_0_2.1, p6_0_2.2.1, p6_0_2.2.2.1, ()), ()))
       else
       (roomI 1 out_13_2 [(bif v_29 then true else !v_31)]).bind fun v_184 =>
       some (.inl ((op_0_2, x_8_2, y_9_2, less_10_2, v_184, t110_175, (IntKind.i64.wrap (i_15_2 + 1)), ()), (p6_0_2.1, p6_0_2.2.1, p6_0_2.2.2.1, ()), ()))
      else
      bif (decide (op_0_2 = [120, 111, 114])) then
       (roomI 1 out_13_2 [(!(decide (v_29 = (!v_31))))]).bind fun v_188 =>
       some (.inl ((op_0_2, x_8_2, y_9_2, less_10_2, v_188, t110_175, (IntKind.i64.wrap (i_15_2 + 1)), ()), (p6_0_2.1, p6_0_2.2.1, p6_0_2.2.2.1, ()), ()))
      else
      (roomI 1 out_13_2 [(bif v_29 then !v_31 else false)]).bind fun v_190 =>
      some (.inl ((op_0_2, x_8_2, y_9_2, less_10_2, v_190, t110_175, (IntKind.i64.wrap (i_15_2 + 1)), ()), (p6_0_2.1, p6_0_2.2.1, p6_0_2.2.2.1, ()), ()))
     else
     bif (decide (op_0_2 = [111, 114])) then
      guardR (!v_29) (some ()) () fun _ =>
      bif (decide (op_0_2 = [120, 111, 114])) then
       (roomI 1 out_13_2 [(!(decide (v_29 = (!v_31))))]).bind fun v_196 =>
       some (.inl ((op_0_2, x_8_2, y_9_2, less_10_2, v_196, t110_175, (IntKind.i64.wrap (i_15_2 + 1)), ()), (p6_0_2.1, p6_0_2.2.1, p6_0_2.2.2.1, ()), ()))
      else
      (roomI 1 out_13_2 [(bif v_29 then true else !v_31)]).bind fun v_198 =>
      some (.inl ((op_0_2, x_8_2, y_9_2, less_10_2, v_198, t110_175, (IntKind.i64.wrap (i_15_2 + 1)), ()), (p6_0_2.1, p6_0_2.2.1, p6_0_2.2.2.1, ()), ()))
     else
     bif (decide (op_0_2 = [120, 111, 114])) then
      (roomI 1 out_13_2 [(!(decide (v_29 = (!v_31))))]).bind fun v_202 =>
      some (.inl ((op_0_2, x_8_2, y_9_2, less_10_2, v_202, t110_175, (IntKind.i64.wrap (i_15_2 + 1)), ()), (p6_0_2.1, p6_0_2.2.1, p6_0_2.2.2.1, ()), ()))
     else
     (roomI 1 out_13_2 [(decide ((t105_172.tmod 2) = 1))]).bind fun v_204 =>
     some (.inl ((op_0_2, x_8_2, y_9_2, less_10_2, v_204, t110_175, (IntKind.i64.wrap (i_15_2 + 1)), ()), (p6_0_2.1, p6_0_2.2.1, p6_0_2.2.2.1, ()), ()))
    else
    let t110_208 : Bool := decide (t102_171 ≥ 2)
    bif (decide (op_0_2 = [97, 110, 100])) then
     guardR v_29 (some ()) () fun _ =>
     bif (decide (op_0_2 = [111, 114])) then
      guardR (!v_29) (some ()) () fun _ =>
      bif (decide (op_0_2 = [120, 111, 114])) then
       (roomI 1 out_13_2 [(!(decide (v_29 = (!v_31))))]).bind fun v_215 =>
       some (.inl ((op_0_2, x_8_2, y_9_2, less_10_2, v_215, t110_208, (IntKind.i64.wrap (i_15_2 + 1)), ()), (p6_0_2.1, p6_0_2.2.1, p6_0_2.2.2.1, ()), ()))
      else
      (roomI 1 out_13_2 [(bif v_29 then true else !v_31)]).bind fun v_217 =>
      some (.inl ((op_0_2, x_8_2, y_9_2, less_10_2, v_217, t110_208, (IntKind.i64.wrap (i_15_2 + 1)), ()), (p6_0_2.1, p6_0_2.2.1, p6_0_2.2.2.1, ()), ()))
     else
     bif (decide (op_0_2 = [120, 111, 114])) then
      (roomI 1 out_13_2 [(!(decide (v_29 = (!v_31))))]).bind fun v_221 =>
      some (.inl ((op_0_2, x_8_2, y_9_2, less_10_2, v_221, t110_208, (IntKind.i64.wrap (i_15_2 + 1)), ()), (p6_0_2.1, p6_0_2.2.1, p6_0_2.2.2.1, ()), ()))
     else
     (roomI 1 out_13_2 [(bif v_29 then !v_31 else false)]).bind fun v_223 =>
     some (.inl ((op_0_2, x_8_2, y_9_2, less_10_2, v_223, t110_208, (IntKind.i64.wrap (i_15_2 + 1)), ()), (p6_0_2.1, p6_0_2.2.1, p6_0_2.2.2.1, ()), ()))
    else
    bif (decide (op_0_2 = [111, 114])) then
     guardR (!v_29) (some ()) () fun _ =>
     bif (decide (op_0_2 = [120, 111, 114])) then
      (roomI 1 out_13_2 [(!(decide (v_29 = (!v_31))))]).bind fun v_229 =>
      some (.inl ((op_0_2, x_8_2, y_9_2, less_10_2, v_229, t110_208, (IntKind.i64.wrap (i_15_2 + 1)), ()), (p6_0_2.1, p6_0_2.2.1, p6_0_2.2.2.1, ()), ()))
     else
     (roomI 1 out_13_2 [(bif v_29 then true else !v_31)]).bind fun v_231 =>
     some (.inl ((op_0_2, x_8_2, y_9_2, less_10_2, v_231, t110_208, (IntKind.i64.wrap (i_15_2 + 1)), ()), (p6_0_2.1, p6_0_2.2.1, p6_0_2.2.2.1, ()), ()))
    else
    bif (decide (op_0_2 = [120, 111, 114])) then
     (roomI 1 out_13_2 [(!(decide (v_29 = (!v_31))))]).bind fun v_235 =>
     some (.inl ((op_0_2, x_8_2, y_9_2, less_10_2, v_235, t110_208, (IntKind.i64.wrap (i_15_2 + 1)), ()), (p6_0_2.1, p6_0_2.2.1, p6_0_2.2.2.1, ()), ()))
    else
    (roomI 1 out_13_2 [(decide ((t102_171.tmod 2) = 1))]).bind fun v_237 =>
    some (.inl ((op_0_2, x_8_2, y_9_2, less_10_2, v_237, t110_208, (IntKind.i64.wrap (i_15_2 + 1)), ()), (p6_0_2.1, p6_0_2.2.1, p6_0_2.2.2.1, ()), ()))
   else
   bif carry_14_2 then
    let t105_239 : Int := IntKind.i64.wrap (0 + 1)
    let t110_242 : Bool := decide (t105_239 ≥ 2)
    bif (decide (op_0_2 = [97, 110, 100])) then
     guardR v_29 (some ()) () fun _ =>
     bif (decide (op_0_2 = [111, 114])) then
      guardR (!v_29) (some ()) () fun _ =>
      bif (decide (op_0_2 = [120, 111, 114])) then
       (roomI 1 out_13_2 [(!(decide (v_29 = (!v_31))))]).bind fun v_249 =>
       some (.inl ((op_0_2, x_8_2, y_9_2, less_10_2, v_249, t110_242, (IntKind.i64.wrap (i_15_2 + 1)), ()), (p6_0_2.1, p6_0_2.2.1, p6_0_2.2.2.1, ()), ()))
      else
      (roomI 1 out_13_2 [(bif v_29 then true else !v_31)]).bind fun v_251 =>
      some (.inl ((op_0_2, x_8_2, y_9_2, less_10_2, v_251, t110_242, (IntKind.i64.wrap (i_15_2 + 1)), ()), (p6_0_2.1, p6_0_2.2.1, p6_0_2.2.2.1, ()), ()))
     else
     bif (decide (op_0_2 = [120, 111, 114])) then
      (roomI 1 out_13_2 [(!(decide (v_29 = (!v_31))))]).bind fun v_255 =>
      some (.inl ((op_0_2, x_8_2, y_9_2, less_10_2, v_255, t110_242, (IntKind.i64.wrap (i_15_2 + 1)), ()), (p6_0_2.1, p6_0_2.2.1, p6_0_2.2.2.1, ()), ()))
     else
     (roomI 1 out_13_2 [(bif v_29 then !v_31 else false)]).bind fun v_257 =>
     some (.inl ((op_0_2, x_8_2, y_9_2, less_10_2, v_257, t110_242, (IntKind.i64.wrap (i_15_2 + 1)), ()), (p6_0_2.1, p6_0_2.2.1, p6_0_2.2.2.1, ()), ()))
    else
    bif (decide (op_0_2 = [111, 114])) then
     guardR (!v_29) (some ()) () fun _ =>
     bif (decide (op_0_2 = [120, 111, 114])) then
      (roomI 1 out_13_2 [(!(decide (v_29 = (!v_31))))]).bind fun v_263 =>
      some (.inl ((op_0_2, x_8_2, y_9_2, less_10_2, v_263, t110_242, (IntKind.i64.wrap (i_15_2 + 1)), ()), (p6_0_2.1, p6_0_2.2.1, p6_0_2.2.2.1, ()), ()))
     else
     (roomI 1 out_13_2 [(bif v_29 then true else !v_31)]).bind fun v_265 =>
     some (.inl ((op_0_2, x_8_2, y_9_2, less_10_2, v_265, t110_242, (IntKind.i64.wrap (i_15_2 + 1)), ()), (p6_0_2.1, p6_0_2.2.1, p6_0_2.2.2.1, ()), ()))
    else
    bif (decide (op_0_2 = [120, 111, 114])) then
     (roomI 1 out_13_2 [(!(decide (v_29 = (!v_31))))]).bind fun v_269 =>
     some (.inl ((op_0_2, x_8_2, y_9_2, less_10_2, v_269, t110_242, (IntKind.i64.wrap (i_15_2 + 1)), ()), (p6_0_2.1, p6_0_2.2.1, p6_0_2.2.2.1, ()), ()))
    else
    (roomI 1 out_13_2 [(decide ((t105_239.tmod 2) = 1))]).bind fun v_271 =>
    some (.inl ((op_0_2, x_8_2, y_9_2, less_10_2, v_271, t110_242, (IntKind.i64.wrap (i_15_2 + 1)), ()), (p6_0_2.1, p6_0_2.2.1, p6_0_2.2.2.1, ()), ()))
   else
   let t110_275 : Bool := decide ((0 : Int) ≥ 2)
   bif (decide (op_0_2 = [97, 110, 100])) then
    guardR v_29 (some ()) () fun _ =>
    bif (decide (op_0_2 = [111, 114])) then
     guardR (!v_29) (some ()) () fun _ =>
     bif (decide (op_0_2 = [120, 111, 114])) then
      (roomI 1 out_13_2 [(!(decide (v_29 = (!v_31))))]).bind fun v_282 =>
      some (.inl ((op_0_2, x_8_2, y_9_2, less_10_2, v_282, t110_275, (IntKind.i64.wrap (i_15_2 + 1)), ()), (p6_0_2.1, p6_0_2.2.1, p6_0_2.2.2.1, ()), ()))
     else
     (roomI 1 out_13_2 [(bif v_29 then true else !v_31)]).bind fun v_284 =>
     some (.inl ((op_0_2, x_8_2, y_9_2, less_10_2, v_284, t110_275, (IntKind.i64.wrap (i_15_2 + 1)), ()), (p6_0_2.1, p6_0_2.2.1, p6_0_2.2.2.1, ()), ()))
    else
    bif (decide (op_0_2 = [120, 111, 114])) then
     (roomI 1 out_13_2 [(!(decide (v_29 = (!v_31))))]).bind fun v_288 =>
     some (.inl ((op_0_2, x_8_2, y_9_2, less_10_2, v_288, t110_275, (IntKind.i64.wrap (i_15_2 + 1)), ()), (p6_0_2.1, p6_0_2.2.1, p6_0_2.2.2.1, ()), ()))
    else
    (roomI 1 out_13_2 [(bif v_29 then !v_31 else false)]).bind fun v_290 =>
    some (.inl ((op_0_2, x_8_2, y_9_2, less_10_2, v_290, t110_275, (IntKind.i64.wrap (i_15_2 + 1)), ()), (p6_0_2.1, p6_0_2.2.1, p6_0_2.2.2.1, ()), ()))
   else
   bif (decide (op_0_2 = [111, 114])) then
    guardR (!v_29) (some ()) () fun _ =>
    bif (decide (op_0_2 = [120, 111, 114])) then
     (roomI 1 out_13_2 [(!(decide (v_29 = (!v_31))))]).bind fun v_296 =>
     some (.inl ((op_0_2, x_8_2, y_9_2, less_10_2, v_296, t110_275, (IntKind.i64.wrap (i_15_2 + 1)), ()), (p6_0_2.1, p6_0_2.2.1, p6_0_2.2.2.1, ()), ()))
    else
    (roomI 1 out_13_2 [(bif v_29 then true else !v_31)]).bind fun v_298 =>
    some (.inl ((op_0_2, x_8_2, y_9_2, less_10_2, v_298, t110_275, (IntKind.i64.wrap (i_15_2 + 1)), ()), (p6_0_2.1, p6_0_2.2.1, p6_0_2.2.2.1, ()), ()))
   else
   bif (decide (op_0_2 = [120, 111, 114])) then
    (roomI 1 out_13_2 [(!(decide (v_29 = (!v_31))))]).bind fun v_302 =>
    some (.inl ((op_0_2, x_8_2, y_9_2, less_10_2, v_302, t110_275, (IntKind.i64.wrap (i_15_2 + 1)), ()), (p6_0_2.1, p6_0_2.2.1, p6_0_2.2.2.1, ()), ()))
   else
   (roomI 1 out_13_2 [(decide (((0 : Int).tmod 2) = 1))]).bind fun v_304 =>
   some (.inl ((op_0_2, x_8_2, y_9_2, less_10_2, v_304, t110_275, (IntKind.i64.wrap (i_15_2 + 1)), ()), (p6_0_2.1, p6_0_2.2.1, p6_0_2.2.2.1, ()), ()))
  else
  bif v_29 then
   let t99_306 : Int := IntKind.i64.wrap (0 + 1)
   bif v_31 then
    let t102_307 : Int := IntKind.i64.wrap (t99_306 + 1)
    bif carry_14_2 then
     let t105_308 : Int := IntKind.i64.wrap (t102_307 + 1)
     let t110_311 : Bool := decide (t105_308 ≥ 2)
     bif (decide (op_0_2 = [97, 110, 100])) then
      guardR v_29 (some ()) () fun _ =>
      bif (decide (op_0_2 = [111, 114])) then
       guardR (!v_29) (some ()) () fun _ =>
       bif (decide (op_0_2 = [120, 111, 114])) then
        (roomI 1 out_13_2 [(!(decide (v_29 = v_31)))]).bind fun v_318 =>
        some (.inl ((op_0_2, x_8_2, y_9_2, less_10_2, v_318, t110_311, (IntKind.i64.wrap (i_15_2 + 1)), ()), (p6_0_2.1, p6_0_2.2.1, p6_0_2.2.2.1, ()), ()))
       else
       (roomI 1 out_13_2 [(bif v_29 then true else v_31)]).bind fun v_320 =>
       some (.inl ((op_0_2, x_8_2, y_9_2, less_10_2, v_320, t110_311, (IntKind.i64.wrap (i_15_2 + 1)), ()), (p6_0_2.1, p6_0_2.2.1, p6_0_2.2.2.1, ()), ()))
      else
      bif (decide (op_0_2 = [120, 111, 114])) then
       (roomI 1 out_13_2 [(!(decide (v_29 = v_31)))]).bind fun v_324 =>
       some (.inl ((op_0_2, x_8_2, y_9_2, less_10_2, v_324, t110_311, (IntKind.i64.wrap (i_15_2 + 1)), ()), (p6_0_2.1, p6_0_2.2.1, p6_0_2.2.2.1, ()), ()))
      else
      (roomI 1 out_13_2 [(bif v_29 then v_31 else false)]).bind fun v_326 =>
      some (.inl ((op_0_2, x_8_2, y_9_2, less_10_2, v_326, t110_311, (IntKind.i64.wrap (i_15_2 + 1)), ()), (p6_0_2.1, p6_0_2.2.1, p6_0_2.2.2.1, ()), ()))
     else
     bif (decide (op_0_2 = [111, 114])) then
      guardR (!v_29) (some ()) () fun _ =>
      bif (decide (op_0_2 = [120, 111, 114])) then
       (roomI 1 out_13_2 [(!(decide (v_29 = v_31)))]).bind fun v_332 =>
       some (.inl ((op_0_2, x_8_2, y_9_2, less_10_2, v_332, t110_311, (IntKind.i64.wrap (i_15_2 + 1)), ()), (p6_0_2.1, p6_0_2.2.1, p6_0_2.2.2.1, ()), ()))
      else
      (roomI 1 out_13_2 [(bif v_29 then true else v_31)]).bind fun v_334 =>
      some (.inl ((op_0_2, x_8_2, y_9_2, less_10_2, v_334, t110_311, (IntKind.i64.wrap (i_15_2 + 1)), ()), (p6_0_2.1, p6_0_2.2.1, p6_0_2.2.2.1, ()), ()))
     else
     bif (decide (op_0_2 = [120, 111, 114])) then
      (roomI 1 out_13_2 [(!(decide (v_29 = v_31)))]).bind fun v_338 =>
      some (.inl ((op_0_2, x_8_2, y_9_2, less_10_2, v_338, t110_311, (IntKind.i64.wrap (i_15_2 + 1)), ()), (p6_0_2.1, p6_0_2.2.1, p6_0_2.2.2.1, ()), ()))
     else
     (roomI 1 out_13_2 [(decide ((t105_308.tmod 2) = 1))]).bind fun v_340 =>
     some (.inl ((op_0_2, x_8_2, y_9_2, less_10_2, v_340, t110_311, (IntKind.i64.wrap (i_15_2 + 1)), ()), (p6_0_2.1, p6_0_2.2.1, p6_0_2.2.2.1, ()), ()))
    else
    let t110_344 : Bool := decide (t102_307 ≥ 2)
    bif (decide (op_0_2 = [97, 110, 100])) then
     guardR v_29 (some ()) () fun _ =>
     bif (decide (op_0_2 = [111, 114])) then
      guardR (!v_29) (some ()) () fun _ =>
      bif (decide (op_0_2 = [120, 111, 114])) then
       (roomI 1 out_13_2 [(!(decide (v_29 = v_31)))]).bind fun v_351 =>
       some (.inl ((op_0_2, x_8_2, y_9_2, less_10_2, v_351, t110_344, (IntKind.i64.wrap (i_15_2 + 1)), ()), (p6_0_2.1, p6_0_2.2.1, p6_0_2.2.2.1, ()), ()))
      else
      (roomI 1 out_13_2 [(bif v_29 then true else v_31)]).bind fun v_353 =>
      some (.inl ((op_0_2, x_8_2, y_9_2, less_10_2, v_353, t110_344, (IntKind.i64.wrap (i_15_2 + 1)), ()), (p6_0_2.1, p6_0_2.2.1, p6_0_2.2.2.1, ()), ()))
     else
     bif (decide (op_0_2 = [120, 111, 114])) then
      (roomI 1 out_13_2 [(!(decide (v_29 = v_31)))]).bind fun v_357 =>
      some (.inl ((op_0_2, x_8_2, y_9_2, less_10_2, v_357, t110_344, (IntKind.i64.wrap (i_15_2 + 1)), ()), (p6_0_2.1, p6_0_2.2.1, p6_0_2.2.2.1, ()), ()))
     else
     (roomI 1 out_13_2 [(bif v_29 then v_31 else false)]).bind fun v_359 =>
     some (.inl ((op_0_2, x_8_2, y_9_2, less_10_2, v_359, t110_344, (IntKind.i64.wrap (i_15_2 + 1)), ()), (p6_0_2.1, p6_0_2.2.1, p6_0_2.2.2.1, ()), ()))
    else
    bif (decide (op_0_2 = [111, 114])) then
     guardR (!v_29) (some ()) () fun _ =>
     bif (decide (op_0_2 = [120, 111, 114])) then
      (roomI 1 out_13_2 [(!(decide (v_29 = v_31)))]).bind fun v_365 =>
      some (.inl ((op_0_2, x_8_2, y_9_2, less_10_2, v_365, t110_344, (IntKind.i64.wrap (i_15_2 + 1)), ()), (p6_0_2.1, p6_0_2.2.1, p6_0_2.2.2.1, ()), ()))
     else
     (roomI 1 out_13_2 [(bif v_29 then true else v_31)]).bind fun v_367 =>
     some (.inl ((op_0_2, x_8_2, y_9_2, less_10_2, v_367, t110_344, (IntKind.i64.wrap (i_15_2 + 1)), ()), (p6_0_2.1, p6_0_2.2.1, p6_0_2.2.2.1, ()), ()))
    else
    bif (decide (op_0_2 = [120, 111, 114])) then
     (roomI 1 out_13_2 [(!(decide (v_29 = v_31)))]).bind fun v_371 =>
     some (.inl ((op_0_2, x_8_2, y_9_2, less_10_2, v_371, t110_344, (IntKind.i64.wrap (i_15_2 + 1)), ()), (p6_0_2.1, p6_0_2.2.1, p6_0_2.2.2.1, ()), ()))
    else
    (roomI 1 out_13_2 [(decide ((t102_307.tmod 2) = 1))]).bind fun v_373 =>
    some (.inl ((op_0_2, x_8_2, y_9_2, less_10_2, v_373, t110_344, (IntKind.i64.wrap (i_15_2 + 1)), ()), (p6_0_2.1, p6_0_2.2.1, p6_0_2.2.2.1, ()), ()))
   else
   bif carry_14_2 then
    let t105_375 : Int := IntKind.i64.wrap (t99_306 + 1)
    let t110_378 : Bool := decide (t105_375 ≥ 2)
    bif (decide (op_0_2 = [97, 110, 100])) then
     guardR v_29 (some ()) () fun _ =>
     bif (decide (op_0_2 = [111, 114])) then
      guardR (!v_29) (some ()) () fun _ =>
      bif (decide (op_0_2 = [120, 111, 114])) then
       (roomI 1 out_13_2 [(!(decide (v_29 = v_31)))]).bind fun v_385 =>
       some (.inl ((op_0_2, x_8_2, y_9_2, less_10_2, v_385, t110_378, (IntKind.i64.wrap (i_15_2 + 1)), ()), (p6_0_2.1, p6_0_2.2.1, p6_0_2.2.2.1, ()), ()))
      else
      (roomI 1 out_13_2 [(bif v_29 then true else v_31)]).bind fun v_387 =>
      some (.inl ((op_0_2, x_8_2, y_9_2, less_10_2, v_387, t110_378, (IntKind.i64.wrap (i_15_2 + 1)), ()), (p6_0_2.1, p6_0_2.2.1, p6_0_2.2.2.1, ()), ()))
     else
     bif (decide (op_0_2 = [120, 111, 114])) then
      (roomI 1 out_13_2 [(!(decide (v_29 = v_31)))]).bind fun v_391 =>
      some (.inl ((op_0_2, x_8_2, y_9_2, less_10_2, v_391, t110_378, (IntKind.i64.wrap (i_15_2 + 1)), ()), (p6_0_2.1, p6_0_2.2.1, p6_0_2.2.2.1, ()), ()))
     else
     (roomI 1 out_13_2 [(bif v_29 then v_31 else false)]).bind fun v_393 =>
     some (.inl ((op_0_2, x_8_2, y_9_2, less_10_2, v_393, t110_378, (IntKind.i64.wrap (i_15_2 + 1)), ()), (p6_0_2.1, p6_0_2.2.1, p6_0_2.2.2.1, ()), ()))
    else
    bif (decide (op_0_2 = [111, 114])) then
     guardR (!v_29) (some ()) () fun _ =>
     bif (decide (op_0_2 = [120, 111, 114])) then
      (roomI 1 out_13_2 [(!(decide (v_29 = v_31)))]).bind fun v_399 =>
      some (.inl ((op_0_2, x_8_2, y_9_2, less_10_2, v_399, t110_378, (IntKind.i64.wrap (i_15_2 + 1)), ()), (p6_0_2.1, p6_0_2.2.1, p6_0_2.2.2.1, ()), ()))
     else
     (roomI 1 out_13_2 [(bif v_29 then true else v_31)]).bind fun v_401 =>
     some (.inl ((op_0_2, x_8_2, y_9_2, less_10_2, v_401, t110_378, (IntKind.i64.wrap (i_15_2 + 1)), ()), (p6_0_2.1, p6_0_2.2.1, p6_0_2.2.2.1, ()), ()))
    else
    bif (decide (op_0_2 = [120, 111, 114])) then
     (roomI 1 out_13_2 [(!(decide (v_29 = v_31)))]).bind fun v_405 =>
     some (.inl ((op_0_2, x_8_2, y_9_2, less_10_2, v_405, t110_378, (IntKind.i64.wrap (i_15_2 + 1)), ()), (p6_0_2.1, p6_0_2.2.1, p6_0_2.2.2.1, ()), ()))
    else
    (roomI 1 out_13_2 [(decide ((t105_375.tmod 2) = 1))]).bind fun v_407 =>
    some (.inl ((op_0_2, x_8_2, y_9_2, less_10_2, v_407, t110_378, (IntKind.i64.wrap (i_15_2 + 1)), ()), (p6_0_2.1, p6_0_2.2.1, p6_0_2.2.2.1, ()), ()))
   else
   let t110_411 : Bool := decide (t99_306 ≥ 2)
   bif (decide (op_0_2 = [97, 110, 100])) then
    guardR v_29 (some ()) () fun _ =>
    bif (decide (op_0_2 = [111, 114])) then
     guardR (!v_29) (some ()) () fun _ =>
     bif (decide (op_0_2 = [120, 111, 114])) then
      (roomI 1 out_13_2 [(!(decide (v_29 = v_31)))]).bind fun v_418 =>
      some (.inl ((op_0_2, x_8_2, y_9_2, less_10_2, v_418, t110_411, (IntKind.i64.wrap (i_15_2 + 1)), ()), (p6_0_2.1, p6_0_2.2.1, p6_0_2.2.2.1, ()), ()))
     else
     (roomI 1 out_13_2 [(bif v_29 then true else v_31)]).bind fun v_420 =>
     some (.inl ((op_0_2, x_8_2, y_9_2, less_10_2, v_420, t110_411, (IntKind.i64.wrap (i_15_2 + 1)), ()), (p6_0_2.1, p6_0_2.2.1, p6_0_2.2.2.1, ()), ()))
    else
    bif (decide (op_0_2 = [120, 111, 114])) then
     (roomI 1 out_13_2 [(!(decide (v_29 = v_31)))]).bind fun v_424 =>
     some (.inl ((op_0_2, x_8_2, y_9_2, less_10_2, v_424, t110_411, (IntKind.i64.wrap (i_15_2 + 1)), ()), (p6_0_2.1, p6_0_2.2.1, p6_0_2.2.2.1, ()), ()))
    else
    (roomI 1 out_13_2 [(bif v_29 then v_31 else false)]).bind fun v_426 =>
    some (.inl ((op_0_2, x_8_2, y_9_2, less_10_2, v_426, t110_411, (IntKind.i64.wrap (i_15_2 + 1)), ()), (p6_0_2.1, p6_0_2.2.1, p6_0_2.2.2.1, ()), ()))
   else
   bif (decide (op_0_2 = [111, 114])) then
    guardR (!v_29) (some ()) () fun _ =>
    bif (decide (op_0_2 = [120, 111, 114])) then
     (roomI 1 out_13_2 [(!(decide (v_29 = v_31)))]).bind fun v_432 =>
     some (.inl ((op_0_2, x_8_2, y_9_2, less_10_2, v_432, t110_411, (IntKind.i64.wrap (i_15_2 + 1)), ()), (p6_0_2.1, p6_0_2.2.1, p6_0_2.2.2.1, ()), ()))
    else
    (roomI 1 out_13_2 [(bif v_29 then true else v_31)]).bind fun v_434 =>
    some (.inl ((op_0_2, x_8_2, y_9_2, less_10_2, v_434, t110_411, (IntKind.i64.wrap (i_15_2 + 1)), ()), (p6_0_2.1, p6_0_2.2.1, p6_0_2.2.2.1, ()), ()))
   else
   bif (decide (op_0_2 = [120, 111, 114])) then
    (roomI 1 out_13_2 [(!(decide (v_29 = v_31)))]).bind fun v_438 =>
    some (.inl ((op_0_2, x_8_2, y_9_2, less_10_2, v_438, t110_411, (IntKind.i64.wrap (i_15_2 + 1)), ()), (p6_0_2.1, p6_0_2.2.1, p6_0_2.2.2.1, ()), ()))
   else
   (roomI 1 out_13_2 [(decide ((t99_306.tmod 2) = 1))]).bind fun v_440 =>
   some (.inl ((op_0_2, x_8_2, y_9_2, less_10_2, v_440, t110_411, (IntKind.i64.wrap (i_15_2 + 1)), ()), (p6_0_2.1, p6_0_2.2.1, p6_0_2.2.2.1, ()), ()))
  else
  bif v_31 then
   let t102_442 : Int := IntKind.i64.wrap (0 + 1)
   bif carry_14_2 then
    let t105_443 : Int := IntKind.i64.wrap (t102_442 + 1)
    let t110_446 : Bool := decide (t105_443 ≥ 2)
    bif (decide (op_0_2 = [97, 110, 100])) then
     guardR v_29 (some ()) () fun _ =>
     bif (decide (op_0_2 = [111, 114])) then
      guardR (!v_29) (some ()) () fun _ =>
      bif (decide (op_0_2 = [120, 111, 114])) then
       (roomI 1 out_13_2 [(!(decide (v_29 = v_31)))]).bind fun v_453 =>
       some (.inl ((op_0_2, x_8_2, y_9_2, less_10_2, v_453, t110_446, (IntKind.i64.wrap (i_15_2 + 1)), ()), (p6_0_2.1, p6_0_2.2.1, p6_0_2.2.2.1, ()), ()))
      else
      (roomI 1 out_13_2 [(bif v_29 then true else v_31)]).bind fun v_455 =>
      some (.inl ((op_0_2, x_8_2, y_9_2, less_10_2, v_455, t110_446, (IntKind.i64.wrap (i_15_2 + 1)), ()), (p6_0_2.1, p6_0_2.2.1, p6_0_2.2.2.1, ()), ()))
     else
     bif (decide (op_0_2 = [120, 111, 114])) then
      (roomI 1 out_13_2 [(!(decide (v_29 = v_31)))]).bind fun v_459 =>
      some (.inl ((op_0_2, x_8_2, y_9_2, less_10_2, v_459, t110_446, (IntKind.i64.wrap (i_15_2 + 1)), ()), (p6_0_2.1, p6_0_2.2.1, p6_0_2.2.2.1, ()), ()))
     else
     (roomI 1 out_13_2 [(bif v_29 then v_31 else false)]).bind fun v_461 =>
     some (.inl ((op_0_2, x_8_2, y_9_2, less_10_2, v_461, t110_446, (IntKind.i64.wrap (i_15_2 + 1)), ()), (p6_0_2.1, p6_0_2.2.1, p6_0_2.2.2.1, ()), ()))
    else
    bif (decide (op_0_2 = [111, 114])) then
     guardR (!v_29) (some ()) () fun _ =>
     bif (decide (op_0_2 = [120, 111, 114])) then
      (roomI 1 out_13_2 [(!(decide (v_29 = v_31)))]).bind fun v_467 =>
      some (.inl ((op_0_2, x_8_2, y_9_2, less_10_2, v_467, t110_446, (IntKind.i64.wrap (i_15_2 + 1)), ()), (p6_0_2.1, p6_0_2.2.1, p6_0_2.2.2.1, ()), ()))
     else
     (roomI 1 out_13_2 [(bif v_29 then true else v_31)]).bind fun v_469 =>
     some (.inl ((op_0_2, x_8_2, y_9_2, less_10_2, v_469, t110_446, (IntKind.i64.wrap (i_15_2 + 1)), ()), (p6_0_2.1, p6_0_2.2.1, p6_0_2.2.2.1, ()), ()))
    else
    bif (decide (op_0_2 = [120, 111, 114])) then
     (roomI 1 out_13_2 [(!(decide (v_29 = v_31)))]).bind fun v_473 =>
     some (.inl ((op_0_2, x_8_2, y_9_2, less_10_2, v_473, t110_446, (IntKind.i64.wrap (i_15_2 + 1)), ()), (p6_0_2.1, p6_0_2.2.1, p6_0_2.2.2.1, ()), ()))
    else
    (roomI 1 out_13_2 [(decide ((t105_443.tmod 2) = 1))]).bind fun v_475 =>
    some (.inl ((op_0_2, x_8_2, y_9_2, less_10_2, v_475, t110_446, (IntKind.i64.wrap (i_15_2 + 1)), ()), (p6_0_2.1, p6_0_2.2.1, p6_0_2.2.2.1, ()), ()))
   else
   let t110_479 : Bool := decide (t102_442 ≥ 2)
   bif (decide (op_0_2 = [97, 110, 100])) then
    guardR v_29 (some ()) () fun _ =>
    bif (decide (op_0_2 = [111, 114])) then
     guardR (!v_29) (some ()) () fun _ =>
     bif (decide (op_0_2 = [120, 111, 114])) then
      (roomI 1 out_13_2 [(!(decide (v_29 = v_31)))]).bind fun v_486 =>
      some (.inl ((op_0_2, x_8_2, y_9_2, less_10_2, v_486, t110_479, (IntKind.i64.wrap (i_15_2 + 1)), ()), (p6_0_2.1, p6_0_2.2.1, p6_0_2.2.2.1, ()), ()))
     else
     (roomI 1 out_13_2 [(bif v_29 then true else v_31)]).bind fun v_488 =>
     some (.inl ((op_0_2, x_8_2, y_9_2, less_10_2, v_488, t110_479, (IntKind.i64.wrap (i_15_2 + 1)), ()), (p6_0_2.1, p6_0_2.2.1, p6_0_2.2.2.1, ()), ()))
    else
    bif (decide (op_0_2 = [120, 111, 114])) then
     (roomI 1 out_13_2 [(!(decide (v_29 = v_31)))]).bind fun v_492 =>
     some (.inl ((op_0_2, x_8_2, y_9_2, less_10_2, v_492, t110_479, (IntKind.i64.wrap (i_15_2 + 1)), ()), (p6_0_2.1, p6_0_2.2.1, p6_0_2.2.2.1, ()), ()))
    else
    (roomI 1 out_13_2 [(bif v_29 then v_31 else false)]).bind fun v_494 =>
    some (.inl ((op_0_2, x_8_2, y_9_2, less_10_2, v_494, t110_479, (IntKind.i64.wrap (i_15_2 + 1)), ()), (p6_0_2.1, p6_0_2.2.1, p6_0_2.2.2.1, ()), ()))
   else
   bif (decide (op_0_2 = [111, 114])) then
    guardR (!v_29) (some ()) () fun _ =>
    bif (decide (op_0_2 = [120, 111, 114])) then
     (roomI 1 out_13_2 [(!(decide (v_29 = v_31)))]).bind fun v_500 =>
     some (.inl ((op_0_2, x_8_2, y_9_2, less_10_2, v_500, t110_479, (IntKind.i64.wrap (i_15_2 + 1)), ()), (p6_0_2.1, p6_0_2.2.1, p6_0_2.2.2.1, ()), ()))
    else
    (roomI 1 out_13_2 [(bif v_29 then true else v_31)]).bind fun v_502 =>
    some (.inl ((op_0_2, x_8_2, y_9_2, less_10_2, v_502, t110_479, (IntKind.i64.wrap (i_15_2 + 1)), ()), (p6_0_2.1, p6_0_2.2.1, p6_0_2.2.2.1, ()), ()))
   else
   bif (decide (op_0_2 = [120, 111, 114])) then
    (roomI 1 out_13_2 [(!(decide (v_29 = v_31)))]).bind fun v_506 =>
    some (.inl ((op_0_2, x_8_2, y_9_2, less_10_2, v_506, t110_479, (IntKind.i64.wrap (i_15_2 + 1)), ()), (p6_0_2.1, p6_0_2.2.1, p6_0_2.2.2.1, ()), ()))
   else
   (roomI 1 out_13_2 [(decide ((t102_442.tmod 2) = 1))]).bind fun v_508 =>
   some (.inl ((op_0_2, x_8_2, y_9_2, less_10_2, v_508, t110_479, (IntKind.i64.wrap (i_15_2 + 1)), ()), (p6_0_2.1, p6_0_2.2.1, p6_0_2.2.2.1, ()), ()))
  else
  bif carry_14_2 then
   let t105_510 : Int := IntKind.i64.wrap (0 + 1)
   let t110_513 : Bool := decide (t105_510 ≥ 2)
   bif (decide (op_0_2 = [97, 110, 100])) then
    guardR v_29 (some ()) () fun _ =>
    bif (decide (op_0_2 = [111, 114])) then
     guardR (!v_29) (some ()) () fun _ =>
     bif (decide (op_0_2 = [120, 111, 114])) then
      (roomI 1 out_13_2 [(!(decide (v_29 = v_31)))]).bind fun v_520 =>
      some (.inl ((op_0_2, x_8_2, y_9_2, less_10_2, v_520, t110_513, (IntKind.i64.wrap (i_15_2 + 1)), ()), (p6_0_2.1, p6_0_2.2.1, p6_0_2.2.2.1, ()), ()))
     else
     (roomI 1 out_13_2 [(bif v_29 then true else v_31)]).bind fun v_522 =>
     some (.inl ((op_0_2, x_8_2, y_9_2, less_10_2, v_522, t110_513, (IntKind.i64.wrap (i_15_2 + 1)), ()), (p6_0_2.1, p6_0_2.2.1, p6_0_2.2.2.1, ()), ()))
    else
    bif (decide (op_0_2 = [120, 111, 114])) then
     (roomI 1 out_13_2 [(!(decide (v_29 = v_31)))]).bind fun v_526 =>
     some (.inl ((op_0_2, x_8_2, y_9_2, less_10_2, v_526, t110_513, (IntKind.i64.wrap (i_15_2 + 1)), ()), (p6_0_2.1, p6_0_2.2.1, p6_0_2.2.2.1, ()), ()))
    else
    (roomI 1 out_13_2 [(bif v_29 then v_31 else false)]).bind fun v_528 =>
    some (.inl ((op_0_2, x_8_2, y_9_2, less_10_2, v_528, t110_513, (IntKind.i64.wrap (i_15_2 + 1)), ()), (p6_0_2.1, p6_0_2.2.1, p6_0_2.2.2.1, ()), ()))
   else
   bif (decide (op_0_2 = [111, 114])) then
    guardR (!v_29) (some ()) () fun _ =>
    bif (decide (op_0_2 = [120, 111, 114])) then
     (roomI 1 out_13_2 [(!(decide (v_29 = v_31)))]).bind fun v_534 =>
     some (.inl ((op_0_2, x_8_2, y_9_2, less_10_2, v_534, t110_513, (IntKind.i64.wrap (i_15_2 + 1)), ()), (p6_0_2.1, p6_0_2.2.1, p6_0_2.2.2.1, ()), ()))
    else
    (roomI 1 out_13_2 [(bif v_29 then true else v_31)]).bind fun v_536 =>
    some (.inl ((op_0_2, x_8_2, y_9_2, less_10_2, v_536, t110_513, (IntKind.i64.wrap (i_15_2 + 1)), ()), (p6_0_2.1, p6_0_2.2.1, p6_0_2.2.2.1, ()), ()))
   else
   bif (decide (op_0_2 = [120, 111, 114])) then
    (roomI 1 out_13_2 [(!(decide (v_29 = v_31)))]).bind fun v_540 =>
    some (.inl ((op_0_2, x_8_2, y_9_2, less_10_2, v_540, t110_513, (IntKind.i64.wrap (i_15_2 + 1)), ()), (p6_0_2.1, p6_0_2.2.1, p6_0_2.2.2.1, ()), ()))
   else
   (roomI 1 out_13_2 [(decide ((t105_510.tmod 2) = 1))]).bind fun v_542 =>
   some (.inl ((op_0_2, x_8_2, y_9_2, less_10_2, v_542, t110_513, (IntKind.i64.wrap (i_15_2 + 1)), ()), (p6_0_2.1, p6_0_2.2.1, p6_0_2.2.2.1, ()), ()))
  else
  let t110_546 : Bool := decide ((0 : Int) ≥ 2)
  bif (decide (op_0_2 = [97, 110, 100])) then
   guardR v_29 (some ()) () fun _ =>
   bif (decide (op_0_2 = [111, 114])) then
    guardR (!v_29) (some ()) () fun _ =>
    bif (decide (op_0_2 = [120, 111, 114])) then
     (roomI 1 out_13_2 [(!(decide (v_29 = v_31)))]).bind fun v_553 =>
     some (.inl ((op_0_2, x_8_2, y_9_2, less_10_2, v_553, t110_546, (IntKind.i64.wrap (i_15_2 + 1)), ()), (p6_0_2.1, p6_0_2.2.1, p6_0_2.2.2.1, ()), ()))
    else
    (roomI 1 out_13_2 [(bif v_29 then true else v_31)]).bind fun v_555 =>
    some (.inl ((op_0_2, x_8_2, y_9_2, less_10_2, v_555, t110_546, (IntKind.i64.wrap (i_15_2 + 1)), ()), (p6_0_2.1, p6_0_2.2.1, p6_0_2.2.2.1, ()), ()))
   else
   bif (decide (op_0_2 = [120, 111, 114])) then
    (roomI 1 out_13_2 [(!(decide (v_29 = v_31)))]).bind fun v_559 =>
    some (.inl ((op_0_2, x_8_2, y_9_2, less_10_2, v_559, t110_546, (IntKind.i64.wrap (i_15_2 + 1)), ()), (p6_0_2.1, p6_0_2.2.1, p6_0_2.2.2.1, ()), ()))
   else
   (roomI 1 out_13_2 [(bif v_29 then v_31 else false)]).bind fun v_561 =>
   some (.inl ((op_0_2, x_8_2, y_9_2, less_10_2, v_561, t110_546, (IntKind.i64.wrap (i_15_2 + 1)), ()), (p6_0_2.1, p6_0_2.2.1, p6_0_2.2.2.1, ()), ()))
  else
  bif (decide (op_0_2 = [111, 114])) then
   guardR (!v_29) (some ()) () fun _ =>
   bif (decide (op_0_2 = [120, 111, 114])) then
    (roomI 1 out_13_2 [(!(decide (v_29 = v_31)))]).bind fun v_567 =>
    some (.inl ((op_0_2, x_8_2, y_9_2, less_10_2, v_567, t110_546, (IntKind.i64.wrap (i_15_2 + 1)), ()), (p6_0_2.1, p6_0_2.2.1, p6_0_2.2.2.1, ()), ()))
   else
   (roomI 1 out_13_2 [(bif v_29 then true else v_31)]).bind fun v_569 =>
   some (.inl ((op_0_2, x_8_2, y_9_2, less_10_2, v_569, t110_546, (IntKind.i64.wrap (i_15_2 + 1)), ()), (p6_0_2.1, p6_0_2.2.1, p6_0_2.2.2.1, ()), ()))
  else
  bif (decide (op_0_2 = [120, 111, 114])) then
   (roomI 1 out_13_2 [(!(decide (v_29 = v_31)))]).bind fun v_573 =>
   some (.inl ((op_0_2, x_8_2, y_9_2, less_10_2, v_573, t110_546, (IntKind.i64.wrap (i_15_2 + 1)), ()), (p6_0_2.1, p6_0_2.2.1, p6_0_2.2.2.1, ()), ()))
  else
  (roomI 1 out_13_2 [(decide (((0 : Int).tmod 2) = 1))]).bind fun v_575 =>
  some (.inl ((op_0_2, x_8_2, y_9_2, less_10_2, v_575, t110_546, (IntKind.i64.wrap (i_15_2 + 1)), ()), (p6_0_2.1, p6_0_2.2.1, p6_0_2.2.2.1, ()), ()))
 else
 (loopR (fun (z : ((List Int) × Bool × (List Bool) × Bool × Int × Unit) × ((Int × Int × Int × Unit) × Unit)) => ref02_Two_s4 z.1.1 z.1.2.1 z.1.2.2.1 z.1.2.2.2.1 z.1.2.2.2.2.1 z.2.1) ((op_0_2, less_10_2, out_13_2, carry_14_2, 0, ()), (p6_0_2.1, p6_0_2.2.1, p6_0_2.2.2.1, ()), ())).map .inr
noncomputable def ref02_Two_s0 (op_0_0 : List Int) (x_8_0 : List Bool) (y_9_0 : List Bool) (less_10_0 : Bool) (same_11_0 : Bool) (i_12_0 : Int) (p6_0_0 : Int × Int × Int × Unit) : Option ((((List Int) × (List Bool) × (List Bool) × Bool × Bool × Int × Unit) × ((Int × Int × Int × Unit) × Unit)) ⊕ (((Int × Int × Int × Unit) × Int × Unit) × (Unit))) :=
 bif (decide (i_12_0 < (x_8_0.length : Int))) then
  (Option.map (fun _ => i_12_0) (ckI i_12_0 x_8_0.length)).bind fun v_10 =>
  (rdI x_8_0 v_10).bind fun v_11 =>
  (Option.map (fun _ => i_12_0) (ckI i_12_0 y_9_0.length)).bind fun v_12 =>
  (rdI y_9_0 v_12).bind fun v_13 =>
  bif (!(decide (v_11 = v_13))) then
   (Option.map (fun _ => i_12_0) (ckI i_12_0 y_9_0.length)).bind fun v_15 =>
   (rdI y_9_0 v_15).bind fun v_16 =>
   some (.inl ((op_0_0, x_8_0, y_9_0, v_16, false, (IntKind.i64.wrap (i_12_0 + 1)), ()), (p6_0_0.1, p6_0_0.2.1, p6_0_0.2.2.1, ()), ()))
  else
  some (.inl ((op_0_0, x_8_0, y_9_0, less_10_0, same_11_0, (IntKind.i64.wrap (i_12_0 + 1)), ()), (p6_0_0.1, p6_0_0.2.1, p6_0_0.2.2.1, ()), ()))
 else
 (bif (decide (op_0_0 = [101, 113])) then
  (ref02_Of [same_11_0]).bind fun r_20 =>
  some ((r_20.1.1, 0, ()), ())
 else
 bif (decide (op_0_0 = [108, 101, 115, 115])) then
  (ref02_Of [less_10_0]).bind fun r_22 =>
  some ((r_22.1.1, 0, ()), ())
 else
 let t70_23 : Bool := decide (op_0_0 = [115, 117, 98])
 guardR (!t70_23) (some ()) () fun _ =>
 guardR (!t70_23) (some (decide (op_0_0 = [115, 117, 98, 115, 97, 116]))) false fun v_24 =>
 loopR (fun (z : ((List Int) × (List Bool) × (List Bool) × Bool × (List Bool) × Bool × Int × Unit) × ((Int × Int × Int × Unit) × Unit)) => ref02_Two_s2 z.1.1 z.1.2.1 z.1.2.2.1 z.1.2.2.2.1 z.1.2.2.2.2.1 z.1.2.2.2.2.2.1 z.1.2.2.2.2.2.2.1 z.2.1) ((op_0_0, x_8_0, y_9_0, less_10_0, [], (bif t70_23 then true else v_24), 0, ()), (p6_0_0.1, p6_0_0.2.1, p6_0_0.2.2.1, ()), ())).map .inr
noncomputable def ref02_Two (op_0 : List Int) (a_1 : Int × Int × Int × Unit) (b_2 : Int × Int × Int × Unit) : Option (((Int × Int × Int × Unit) × Int × Unit) × (Unit)) :=
 (ref02_May (a_1.1, a_1.2.1, a_1.2.2.1, ())).bind fun r_1 =>
 guardR (!(!r_1.1.1)) (some (b_2.1, b_2.2.1, b_2.2.2.1, ())) (0, 0, 0, ()) fun v_2 =>
 guardR (!(!r_1.1.1)) (ref02_May v_2) ((false, ()), ()) fun r_3 =>
 guardR (!(!r_1.1.1)) (some ()) () fun _ =>
 bif (bif !r_1.1.1 then true else !r_3.1.1) then
  some (((0, 0, 0, ()), 1, ()), ())
 else
 bif (!decide (a_1.1 = b_2.1)) then
  some (((0, 0, 0, ()), 9, ()), ())
 else
 (ref02_Bits (a_1.1, a_1.2.1, a_1.2.2.1, ())).bind fun r_6 =>
 (ref02_Bits (b_2.1, b_2.2.1, b_2.2.2.1, ())).bind fun r_7 =>
 loopR (fun (z : ((List Int) × (List Bool) × (List Bool) × Bool × Bool × Int × Unit) × ((Int × Int × Int × Unit) × Unit)) => ref02_Two_s0 z.1.1 z.1.2.1 z.1.2.2.1 z.1.2.2.2.1 z.1.2.2.2.2.1 z.1.2.2.2.2.2.1 z.2.1) ((op_0, r_6.1.1, r_7.1.1, false, true, 0, ()), (0, 0, 0, ()), ())

noncomputable def ref02_Within (a_0 : Int × Int × Int × Unit) (lo_1 : Int × Int × Int × Unit) (hi_2 : Int × Int × Int × Unit) : Option ((Bool × Unit) × (Unit)) :=
 (ref02_Two [108, 101, 115, 115] (a_0.1, a_0.2.1, a_0.2.2.1, ()) (lo_1.1, lo_1.2.1, lo_1.2.2.1, ())).bind fun r_1 =>
 (ref02_Two [108, 101, 115, 115] (hi_2.1, hi_2.2.1, hi_2.2.2.1, ()) (a_0.1, a_0.2.1, a_0.2.2.1, ())).bind fun r_2 =>
 let t24_3 : Bool := decide (r_1.1.2.1 = 0)
 guardR t24_3 (some ()) () fun _ =>
 guardR t24_3 (some (decide (r_2.1.2.1 = 0))) false fun v_4 =>
 let t28_5 : Bool := bif t24_3 then v_4 else false
 guardR t28_5 (some ()) () fun _ =>
 guardR t28_5 (some r_1.1.1.2.2.1) 0 fun v_6 =>
 guardR t28_5 (some (decide (v_6 = 0))) false fun v_7 =>
 let t33_8 : Bool := bif t28_5 then v_7 else false
 guardR t33_8 (some ()) () fun _ =>
 guardR t33_8 (some r_2.1.1.2.2.1) 0 fun v_9 =>
 guardR t33_8 (some (decide (v_9 = 0))) false fun v_10 =>
 some (((bif t33_8 then v_10 else false), ()), ())

noncomputable def ref02_One_s0 (op_0_0 : List Int) (n_2_0 : Int) (x_8_0 : List Bool) (w_9_0 : Int) (out_10_0 : List Bool) (carry_11_0 : Bool) (i_12_0 : Int) (p6_0_0 : Int × Int × Int × Unit) : Option ((((List Int) × Int × (List Bool) × Int × (List Bool) × Bool × Int × Unit) × ((Int × Int × Int × Unit) × Unit)) ⊕ (((Int × Int × Int × Unit) × Int × Unit) × (Unit))) :=
 bif (decide (i_12_0 < w_9_0)) then
  let t56_17 : Bool := decide (i_12_0 < (x_8_0.length : Int))
  guardR t56_17 (some ()) () fun _ =>
  guardR t56_17 (some ()) () fun _ =>
  guardR t56_17 (Option.map (fun _ => i_12_0) (ckI i_12_0 x_8_0.length)) 0 fun v_18 =>
  guardR t56_17 (rdI x_8_0 v_18) false fun v_19 =>
  let t62_20 : Bool := bif t56_17 then v_19 else false
  bif (decide (op_0_0 = [110, 111, 116])) then
   bif (decide (op_0_0 = [110, 101, 103])) then
    guardR (!(!t62_20)) (some ()) () fun _ =>
    let t77_24 : Bool := bif !(!t62_20) then carry_11_0 else false
    bif (decide (op_0_0 = [115, 104, 108])) then
     let t82_26 : Bool := decide (n_2_0 ≤ i_12_0)
     guardR t82_26 (some ()) () fun _ =>
     guardR t82_26 (some ()) () fun _ =>
     guardR t82_26 (some ()) () fun _ =>
     guardR t82_26 (some ()) () fun _ =>
     guardR t82_26 (some (minI n_2_0 i_12_0)) 0 fun v_27 =>
     guardR t82_26 (some (IntKind.i64.wrap (i_12_0 - v_27))) 0 fun v_28 =>
     guardR t82_26 (Option.map (fun _ => v_28) (ckI v_28 x_8_0.length)) 0 fun v_29 =>
     guardR t82_26 (rdI x_8_0 v_29) false fun v_30 =>
     bif (decide (op_0_0 = [115, 104, 114])) then
      let t99_34 : Bool := decide (n_2_0 < (IntKind.i64.wrap (w_9_0 - i_12_0)))
      guardR t99_34 (some ()) () fun _ =>
      guardR t99_34 (some ()) () fun _ =>
      guardR t99_34 (some ()) () fun _ =>
      guardR t99_34 (some ()) () fun _ =>
      guardR t99_34 (some (minI n_2_0 w_9_0)) 0 fun v_35 =>
      guardR t99_34 (some (IntKind.i64.wrap (i_12_0 + v_35))) 0 fun v_36 =>
      guardR t99_34 (some ()) () fun _ =>
      guardR t99_34 (some (IntKind.i64.wrap (w_9_0 - 1))) 0 fun v_37 =>
      guardR t99_34 (some (minI v_36 v_37)) 0 fun v_38 =>
      guardR t99_34 (Option.map (fun _ => v_38) (ckI v_38 x_8_0.length)) 0 fun v_39 =>
      guardR t99_34 (rdI x_8_0 v_39) false fun v_40 =>
      (roomI 1 out_10_0 [(bif t99_34 then v_40 else false)]).bind fun v_42 =>
      some (.inl ((op_0_0, n_2_0, x_8_0, w_9_0, v_42, t77_24, (IntKind.i64.wrap (i_12_0 + 1)), ()), (p6_0_0.1, p6_0_0.2.1, p6_0_0.2.2.1, ()), ()))
     else
     (roomI 1 out_10_0 [(bif t82_26 then v_30 else false)]).bind fun v_44 =>
     some (.inl ((op_0_0, n_2_0, x_8_0, w_9_0, v_44, t77_24, (IntKind.i64.wrap (i_12_0 + 1)), ()), (p6_0_0.1, p6_0_0.2.1, p6_0_0.2.2.1, ()), ()))
    else
    bif (decide (op_0_0 = [115, 104, 114])) then
     let t99_48 : Bool := decide (n_2_0 < (IntKind.i64.wrap (w_9_0 - i_12_0)))
     guardR t99_48 (some ()) () fun _ =>
     guardR t99_48 (some ()) () fun _ =>
     guardR t99_48 (some ()) () fun _ =>
     guardR t99_48 (some ()) () fun _ =>
     guardR t99_48 (some (minI n_2_0 w_9_0)) 0 fun v_49 =>
     guardR t99_48 (some (IntKind.i64.wrap (i_12_0 + v_49))) 0 fun v_50 =>
     guardR t99_48 (some ()) () fun _ =>
     guardR t99_48 (some (IntKind.i64.wrap (w_9_0 - 1))) 0 fun v_51 =>
     guardR t99_48 (some (minI v_50 v_51)) 0 fun v_52 =>
     guardR t99_48 (Option.map (fun _ => v_52) (ckI v_52 x_8_0.length)) 0 fun v_53 =>
     guardR t99_48 (rdI x_8_0 v_53) false fun v_54 =>
     (roomI 1 out_10_0 [(bif t99_48 then v_54 else false)]).bind fun v_56 =>
     some (.inl ((op_0_0, n_2_0, x_8_0, w_9_0, v_56, t77_24, (IntKind.i64.wrap (i_12_0 + 1)), ()), (p6_0_0.1, p6_0_0.2.1, p6_0_0.2.2.1, ()), ()))
    else
    (roomI 1 out_10_0 [(!(decide ((!(!t62_20)) = carry_11_0)))]).bind fun v_58 =>
    some (.inl ((op_0_0, n_2_0, x_8_0, w_9_0, v_58, t77_24, (IntKind.i64.wrap (i_12_0 + 1)), ()), (p6_0_0.1, p6_0_0.2.1, p6_0_0.2.2.1, ()), ()))
   else
   bif (decide (op_0_0 = [115, 104, 108])) then
    let t82_61 : Bool := decide (n_2_0 ≤ i_12_0)
    guardR t82_61 (some ()) () fun _ =>
    guardR t82_61 (some ()) () fun _ =>
    guardR t82_61 (some ()) () fun _ =>
    guardR t82_61 (some ()) () fun _ =>
    guardR t82_61 (some (minI n_2_0 i_12_0)) 0 fun v_62 =>
    guardR t82_61 (some (IntKind.i64.wrap (i_12_0 - v_62))) 0 fun v_63 =>
    guardR t82_61 (Option.map (fun _ => v_63) (ckI v_63 x_8_0.length)) 0 fun v_64 =>
    guardR t82_61 (rdI x_8_0 v_64) false fun v_65 =>
    bif (decide (op_0_0 = [115, 104, 114])) then
     let t99_69 : Bool := decide (n_2_0 < (IntKind.i64.wrap (w_9_0 - i_12_0)))
     guardR t99_69 (some ()) () fun _ =>
     guardR t99_69 (some ()) () fun _ =>
     guardR t99_69 (some ()) () fun _ =>
     guardR t99_69 (some ()) () fun _ =>
     guardR t99_69 (some (minI n_2_0 w_9_0)) 0 fun v_70 =>
     guardR t99_69 (some (IntKind.i64.wrap (i_12_0 + v_70))) 0 fun v_71 =>
     guardR t99_69 (some ()) () fun _ =>
     guardR t99_69 (some (IntKind.i64.wrap (w_9_0 - 1))) 0 fun v_72 =>
     guardR t99_69 (some (minI v_71 v_72)) 0 fun v_73 =>
     guardR t99_69 (Option.map (fun _ => v_73) (ckI v_73 x_8_0.length)) 0 fun v_74 =>
     guardR t99_69 (rdI x_8_0 v_74) false fun v_75 =>
     (roomI 1 out_10_0 [(bif t99_69 then v_75 else false)]).bind fun v_77 =>
     some (.inl ((op_0_0, n_2_0, x_8_0, w_9_0, v_77, carry_11_0, (IntKind.i64.wrap (i_12_0 + 1)), ()), (p6_0_0.1, p6_0_0.2.1, p6_0_0.2.2.1, ()), ()))
    else
    (roomI 1 out_10_0 [(bif t82_61 then v_65 else false)]).bind fun v_79 =>
    some (.inl ((op_0_0, n_2_0, x_8_0, w_9_0, v_79, carry_11_0, (IntKind.i64.wrap (i_12_0 + 1)), ()), (p6_0_0.1, p6_0_0.2.1, p6_0_0.2.2.1, ()), ()))
   else
   bif (decide (op_0_0 = [115, 104, 114])) then
    let t99_83 : Bool := decide (n_2_0 < (IntKind.i64.wrap (w_9_0 - i_12_0)))
    guardR t99_83 (some ()) () fun _ =>
    guardR t99_83 (some ()) () fun _ =>
    guardR t99_83 (some ()) () fun _ =>
    guardR t99_83 (some ()) () fun _ =>
    guardR t99_83 (some (minI n_2_0 w_9_0)) 0 fun v_84 =>
    guardR t99_83 (some (IntKind.i64.wrap (i_12_0 + v_84))) 0 fun v_85 =>
    guardR t99_83 (some ()) () fun _ =>
    guardR t99_83 (some (IntKind.i64.wrap (w_9_0 - 1))) 0 fun v_86 =>
    guardR t99_83 (some (minI v_85 v_86)) 0 fun v_87 =>
    guardR t99_83 (Option.map (fun _ => v_87) (ckI v_87 x_8_0.length)) 0 fun v_88 =>
    guardR t99_83 (rdI x_8_0 v_88) false fun v_89 =>
    (roomI 1 out_10_0 [(bif t99_83 then v_89 else false)]).bind fun v_91 =>
    some (.inl ((op_0_0, n_2_0, x_8_0, w_9_0, v_91, carry_11_0, (IntKind.i64.wrap (i_12_0 + 1)), ()), (p6_0_0.1, p6_0_0.2.1, p6_0_0.2.2.1, ()), ()))
   else
   (roomI 1 out_10_0 [!t62_20]).bind fun v_93 =>
   some (.inl ((op_0_0, n_2_0, x_8_0, w_9_0, v_93, carry_11_0, (IntKind.i64.wrap (i_12_0 + 1)), ()), (p6_0_0.1, p6_0_0.2.1, p6_0_0.2.2.1, ()), ()))
  else
  bif (decide (op_0_0 = [110, 101, 103])) then
   guardR (!t62_20) (some ()) () fun _ =>
   let t77_97 : Bool := bif !t62_20 then carry_11_0 else false
   bif (decide (op_0_0 = [115, 104, 108])) then
    let t82_99 : Bool := decide (n_2_0 ≤ i_12_0)
    guardR t82_99 (some ()) () fun _ =>
    guardR t82_99 (some ()) () fun _ =>
    guardR t82_99 (some ()) () fun _ =>
    guardR t82_99 (some ()) () fun _ =>
    guardR t82_99 (some (minI n_2_0 i_12_0)) 0 fun v_100 =>
    guardR t82_99 (some (IntKind.i64.wrap (i_12_0 - v_100))) 0 fun v_101 =>
    guardR t82_99 (Option.map (fun _ => v_101) (ckI v_101 x_8_0.length)) 0 fun v_102 =>
    guardR t82_99 (rdI x_8_0 v_102) false fun v_103 =>
    bif (decide (op_0_0 = [115, 104, 114])) then
     let t99_107 : Bool := decide (n_2_0 < (IntKind.i64.wrap (w_9_0 - i_12_0)))
     guardR t99_107 (some ()) () fun _ =>
     guardR t99_107 (some ()) () fun _ =>
     guardR t99_107 (some ()) () fun _ =>
     guardR t99_107 (some ()) () fun _ =>
     guardR t99_107 (some (minI n_2_0 w_9_0)) 0 fun v_108 =>
     guardR t99_107 (some (IntKind.i64.wrap (i_12_0 + v_108))) 0 fun v_109 =>
     guardR t99_107 (some ()) () fun _ =>
     guardR t99_107 (some (IntKind.i64.wrap (w_9_0 - 1))) 0 fun v_110 =>
     guardR t99_107 (some (minI v_109 v_110)) 0 fun v_111 =>
     guardR t99_107 (Option.map (fun _ => v_111) (ckI v_111 x_8_0.length)) 0 fun v_112 =>
     guardR t99_107 (rdI x_8_0 v_112) false fun v_113 =>
     (roomI 1 out_10_0 [(bif t99_107 then v_113 else false)]).bind fun v_115 =>
     some (.inl ((op_0_0, n_2_0, x_8_0, w_9_0, v_115, t77_97, (IntKind.i64.wrap (i_12_0 + 1)), ()), (p6_0_0.1, p6_0_0.2.1, p6_0_0.2.2.1, ()), ()))
    else
    (roomI 1 out_10_0 [(bif t82_99 then v_103 else false)]).bind fun v_117 =>
    some (.inl ((op_0_0, n_2_0, x_8_0, w_9_0, v_117, t77_97, (IntKind.i64.wrap (i_12_0 + 1)), ()), (p6_0_0.1, p6_0_0.2.1, p6_0_0.2.2.1, ()), ()))
   else
   bif (decide (op_0_0 = [115, 104, 114])) then
    let t99_121 : Bool := decide (n_2_0 < (IntKind.i64.wrap (w_9_0 - i_12_0)))
    guardR t99_121 (some ()) () fun _ =>
    guardR t99_121 (some ()) () fun _ =>
    guardR t99_121 (some ()) () fun _ =>
    guardR t99_121 (some ()) () fun _ =>
    guardR t99_121 (some (minI n_2_0 w_9_0)) 0 fun v_122 =>
    guardR t99_121 (some (IntKind.i64.wrap (i_12_0 + v_122))) 0 fun v_123 =>
    guardR t99_121 (some ()) () fun _ =>
    guardR t99_121 (some (IntKind.i64.wrap (w_9_0 - 1))) 0 fun v_124 =>
    guardR t99_121 (some (minI v_123 v_124)) 0 fun v_125 =>
    guardR t99_121 (Option.map (fun _ => v_125) (ckI v_125 x_8_0.length)) 0 fun v_126 =>
    guardR t99_121 (rdI x_8_0 v_126) false fun v_127 =>
    (roomI 1 out_10_0 [(bif t99_121 then v_127 else false)]).bind fun v_129 =>
    some (.inl ((op_0_0, n_2_0, x_8_0, w_9_0, v_129, t77_97, (IntKind.i64.wrap (i_12_0 + 1)), ()), (p6_0_0.1, p6_0_0.2.1, p6_0_0.2.2.1, ()), ()))
   else
   (roomI 1 out_10_0 [(!(decide ((!t62_20) = carry_11_0)))]).bind fun v_131 =>
   some (.inl ((op_0_0, n_2_0, x_8_0, w_9_0, v_131, t77_97, (IntKind.i64.wrap (i_12_0 + 1)), ()), (p6_0_0.1, p6_0_0.2.1, p6_0_0.2.2.1, ()), ()))
  else
  bif (decide (op_0_0 = [115, 104, 108])) then
   let t82_134 : Bool := decide (n_2_0 ≤ i_12_0)
   guardR t82_134 (some ()) () fun _ =>
   guardR t82_134 (some ()) () fun _ =>
   guardR t82_134 (some ()) () fun _ =>
   guardR t82_134 (some ()) () fun _ =>
   guardR t82_134 (some (minI n_2_0 i_12_0)) 0 fun v_135 =>
   guardR t82_134 (some (IntKind.i64.wrap (i_12_0 - v_135))) 0 fun v_136 =>
   guardR t82_134 (Option.map (fun _ => v_136) (ckI v_136 x_8_0.length)) 0 fun v_137 =>
   guardR t82_134 (rdI x_8_0 v_137) false fun v_138 =>
   bif (decide (op_0_0 = [115, 104, 114])) then
    let t99_142 : Bool := decide (n_2_0 < (IntKind.i64.wrap (w_9_0 - i_12_0)))
    guardR t99_142 (some ()) () fun _ =>
    guardR t99_142 (some ()) () fun _ =>
    guardR t99_142 (some ()) () fun _ =>
    guardR t99_142 (some ()) () fun _ =>
    guardR t99_142 (some (minI n_2_0 w_9_0)) 0 fun v_143 =>
    guardR t99_142 (some (IntKind.i64.wrap (i_12_0 + v_143))) 0 fun v_144 =>
    guardR t99_142 (some ()) () fun _ =>
    guardR t99_142 (some (IntKind.i64.wrap (w_9_0 - 1))) 0 fun v_145 =>
    guardR t99_142 (some (minI v_144 v_145)) 0 fun v_146 =>
    guardR t99_142 (Option.map (fun _ => v_146) (ckI v_146 x_8_0.length)) 0 fun v_147 =>
    guardR t99_142 (rdI x_8_0 v_147) false fun v_148 =>
    (roomI 1 out_10_0 [(bif t99_142 then v_148 else false)]).bind fun v_150 =>
    some (.inl ((op_0_0, n_2_0, x_8_0, w_9_0, v_150, carry_11_0, (IntKind.i64.wrap (i_12_0 + 1)), ()), (p6_0_0.1, p6_0_0.2.1, p6_0_0.2.2.1, ()), ()))
   else
   (roomI 1 out_10_0 [(bif t82_134 then v_138 else false)]).bind fun v_152 =>
   some (.inl ((op_0_0, n_2_0, x_8_0, w_9_0, v_152, carry_11_0, (IntKind.i64.wrap (i_12_0 + 1)), ()), (p6_0_0.1, p6_0_0.2.1, p6_0_0.2.2.1, ()), ()))
  else
  bif (decide (op_0_0 = [115, 104, 114])) then
   let t99_156 : Bool := decide (n_2_0 < (IntKind.i64.wrap (w_9_0 - i_12_0)))
   guardR t99_156 (some ()) () fun _ =>
   guardR t99_156 (some ()) () fun _ =>
   guardR t99_156 (some ()) () fun _ =>
   guardR t99_156 (some ()) () fun _ =>
   guardR t99_156 (some (minI n_2_0 w_9_0)) 0 fun v_157 =>
   guardR t99_156 (some (IntKind.i64.wrap (i_12_0 + v_157))) 0 fun v_158 =>
   guardR t99_156 (some ()) () fun _ =>
   guardR t99_156 (some (IntKind.i64.wrap (w_9_0 - 1))) 0 fun v_159 =>
   guardR t99_156 (some (minI v_158 v_159)) 0 fun v_160 =>
   guardR t99_156 (Option.map (fun _ => v_160) (ckI v_160 x_8_0.length)) 0 fun v_161 =>
   guardR t99_156 (rdI x_8_0 v_161) false fun v_162 =>
   (roomI 1 out_10_0 [(bif t99_156 then v_162 else false)]).bind fun v_164 =>
   some (.inl ((op_0_0, n_2_0, x_8_0, w_9_0, v_164, carry_11_0, (IntKind.i64.wrap (i_12_0 + 1)), ()), (p6_0_0.1, p6_0_0.2.1, p6_0_0.2.2.1, ()), ()))
  else
  (roomI 1 out_10_0 [t62_20]).bind fun v_166 =>
  some (.inl ((op_0_0, n_2_0, x_8_0, w_9_0, v_166, carry_11_0, (IntKind.i64.wrap (i_12_0 + 1)), ()), (p6_0_0.1, p6_0_0.2.1, p6_0_0.2.2.1, ()), ()))
 else
 ((ref02_Of out_10_0).bind fun r_168 =>
 some ((r_168.1.1, 0, ()), ())).map .inr
noncomputable def vec_New (w_0 : Int) (hi_1 : Int) (lo_2 : Int) : Option (((Int × Int × Int × Unit) × Int × Unit) × (Unit)) :=
 (vec_width w_0).bind fun r_1 =>
 bif !r_1.1.1 then
  some (((0, 0, 0, ()), 9, ()), ())
 else
 (vec_May (w_0, hi_1, lo_2, ())).bind fun r_2 =>
 bif !r_2.1.1 then
  some (((0, 0, 0, ()), 7, ()), ())
 else
 some (((w_0, hi_1, lo_2, ()), 0, ()), ())

noncomputable def vec_Parse (s_0 : List Int) : Option (((Int × Int × Int × Unit) × Int × Unit) × (Unit)) :=
 (strings_Cut s_0 [39]).bind fun r_1 =>
 guardR (!(!r_1.1.2.2.1)) (some ()) () fun _ =>
 guardR (!(!r_1.1.2.2.1)) (some (r_1.1.1.length : Int)) 0 fun v_3 =>
 guardR (!(!r_1.1.2.2.1)) (some (decide (v_3 > 3))) false fun v_4 =>
 bif (bif (!r_1.1.2.2.1) then true else v_4) then
  some (((0, 0, 0, ()), 4, ()), ())
 else
 (word_Parse r_1.1.1 10).bind fun r_6 =>
 (word_Parse r_1.1.2.1 16).bind fun r_7 =>
 let t37_8 : Bool := !decide (r_6.1.2.1 = 0)
 guardR (!t37_8) (some ()) () fun _ =>
 guardR (!t37_8) (some (decide (r_7.1.2.1 = 4))) false fun v_9 =>
 let t41_10 : Bool := bif t37_8 then true else v_9
 guardR (!t41_10) (some ()) () fun _ =>
 guardR (!t41_10) (some (decide (r_7.1.2.1 = 3))) false fun v_11 =>
 bif (bif t41_10 then true else v_11) then
  some (((0, 0, 0, ()), 4, ()), ())
 else
 (vec_width (IntKind.i64.wrap r_6.1.1.2.1)).bind fun r_14 =>
 bif !r_14.1.1 then
  some (((0, 0, 0, ()), 9, ()), ())
 else
 bif (!decide (r_7.1.2.1 = 0)) then
  some (((0, 0, 0, ()), r_7.1.2.1, ()), ())
 else
 (vec_New (IntKind.i64.wrap r_6.1.1.2.1) r_7.1.1.1 r_7.1.1.2.1).bind fun r_17 =>
 some ((r_17.1.1, r_17.1.2.1, ()), ())

noncomputable def ref02_Parse_s0 (s_0_0 : List Int) (at_4_0 : Int) (p2_0_0 : Int × Int × Int × Unit) : Option ((((List Int) × Int × Unit) × ((Int × Int × Int × Unit) × Unit)) ⊕ (((Int × Int × Int × Unit) × Int × Unit) × (Unit))) :=
 let t16_2 : Bool := decide (at_4_0 < (s_0_0.length : Int))
 guardR t16_2 (some ()) () fun _ =>
 guardR t16_2 (some ()) () fun _ =>
 guardR t16_2 (rdI s_0_0 at_4_0) 0 fun v_3 =>
 guardR t16_2 (some (!decide (v_3 = 39))) false fun v_4 =>
 bif (bif t16_2 then v_4 else false) then
  some (.inl ((s_0_0, (IntKind.i64.wrap (at_4_0 + 1)), ()), (p2_0_0.1, p2_0_0.2.1, p2_0_0.2.2.1, ()), ()))
 else
 let t28_8 : Bool := decide (at_4_0 = (s_0_0.length : Int))
 (guardR (!t28_8) (some ()) () fun _ =>
 guardR (!t28_8) (some (decide (at_4_0 < 1))) false fun v_9 =>
 let t32_10 : Bool := bif t28_8 then true else v_9
 guardR (!t32_10) (some ()) () fun _ =>
 guardR (!t32_10) (some (decide (at_4_0 > 3))) false fun v_11 =>
 bif (bif t32_10 then true else v_11) then
  some (((0, 0, 0, ()), 4, ()), ())
 else
 (subL s_0_0 0 at_4_0).bind fun v_13 =>
 (ref01_Parse v_13 10).bind fun r_14 =>
 (subL s_0_0 (IntKind.i64.wrap (at_4_0 + 1)) (s_0_0.length : Int)).bind fun v_16 =>
 (ref01_Parse v_16 16).bind fun r_17 =>
 let t54_18 : Bool := !decide (r_14.1.2.1 = 0)
 guardR (!t54_18) (some ()) () fun _ =>
 guardR (!t54_18) (some (decide (r_17.1.2.1 = 4))) false fun v_19 =>
 let t58_20 : Bool := bif t54_18 then true else v_19
 guardR (!t58_20) (some ()) () fun _ =>
 guardR (!t58_20) (some (decide (r_17.1.2.1 = 3))) false fun v_21 =>
 bif (bif t58_20 then true else v_21) then
  some (((0, 0, 0, ()), 4, ()), ())
 else
 (ref01_Halves r_14.1.1).bind fun r_23 =>
 let t70_24 : Bool := decide (r_23.1.2.1 < 1)
 guardR (!t70_24) (some ()) () fun _ =>
 guardR (!t70_24) (some (decide (r_23.1.2.1 > 128))) false fun v_25 =>
 bif (bif t70_24 then true else v_25) then
  some (((0, 0, 0, ()), 9, ()), ())
 else
 let t77_27 : Bool := !decide (r_17.1.2.1 = 0)
 guardR (!t77_27) (some r_17.1.1) (List.replicate 128 false) fun v_28 =>
 guardR (!t77_27) (ref01_Len v_28) ((0, ()), ()) fun r_29 =>
 guardR (!t77_27) (some ()) () fun _ =>
 guardR (!t77_27) (some (IntKind.i64.wrap r_23.1.2.1)) 0 fun v_30 =>
 guardR (!t77_27) (some (decide (r_29.1.1 > v_30))) false fun v_31 =>
 bif (bif t77_27 then true else v_31) then
  some (((0, 0, 0, ()), 7, ()), ())
 else
 (ref01_Halves r_17.1.1).bind fun r_33 =>
 some ((((IntKind.i64.wrap r_23.1.2.1), r_33.1.1, r_33.1.2.1, ()), 0, ()), ())).map .inr
noncomputable def ref02_Parse (s_0 : List Int) : Option (((Int × Int × Int × Unit) × Int × Unit) × (Unit)) :=
 loopR (fun (z : ((List Int) × Int × Unit) × ((Int × Int × Int × Unit) × Unit)) => ref02_Parse_s0 z.1.1 z.1.2.1 z.2.1) ((s_0, 0, ()), (0, 0, 0, ()), ())

noncomputable def ref02_Text (a_0 : Int × Int × Int × Unit) : Option (((List Int) × Unit) × (Unit)) :=
 (ref02_May (a_0.1, a_0.2.1, a_0.2.2.1, ())).bind fun r_1 =>
 bif !r_1.1.1 then
  some (([], ()), ())
 else
 (ref01_Of 0 (IntKind.u64.wrap a_0.1)).bind fun r_3 =>
 (ref01_Text r_3.1.1 10).bind fun r_4 =>
 (catI r_4.1.1 [39]).bind fun v_5 =>
 (ref01_Of a_0.2.1 a_0.2.2.1).bind fun r_6 =>
 (ref01_Text r_6.1.1 16).bind fun r_7 =>
 (catI v_5 r_7.1.1).bind fun v_8 =>
 some ((v_8, ()), ())

end Go.L

namespace Go.L
open Go Go.Pv
set_option maxRecDepth 100000

noncomputable def name_between (c_0 : Int) (lo_1 : Int) (hi_2 : Int) : Option ((Bool × Unit) × (Unit)) :=
 let t9_1 : Bool := decide (c_0 ≥ lo_1)
 guardR t9_1 (some ()) () fun _ =>
 guardR t9_1 (some ()) () fun _ =>
 guardR t9_1 (some (decide (c_0 ≤ hi_2))) false fun v_2 =>
 some (((bif t9_1 then v_2 else false), ()), ())

noncomputable def name_Letter (c_0 : Int) : Option ((Bool × Unit) × (Unit)) :=
 let t5_1 : Bool := decide (c_0 = 215)
 guardR (!t5_1) (some ()) () fun _ =>
 guardR (!t5_1) (some (decide (c_0 = 247))) false fun v_2 =>
 let t9_3 : Bool := bif t5_1 then true else v_2
 guardR (!t9_3) (some ()) () fun _ =>
 guardR (!t9_3) (some (decide (c_0 = 930))) false fun v_4 =>
 bif (bif t9_3 then true else v_4) then
  some ((false, ()), ())
 else
 (name_between c_0 65 90).bind fun r_6 =>
 guardR (!r_6.1.1) (some ()) () fun _ =>
 guardR (!r_6.1.1) (name_between c_0 97 122) ((false, ()), ()) fun r_7 =>
 let t20_8 : Bool := bif r_6.1.1 then true else r_7.1.1
 guardR (!t20_8) (some ()) () fun _ =>
 guardR (!t20_8) (some (decide (c_0 = 95))) false fun v_9 =>
 bif (bif t20_8 then true else v_9) then
  some ((true, ()), ())
 else
 (name_between c_0 192 591).bind fun r_11 =>
 guardR (!r_11.1.1) (some ()) () fun _ =>
 guardR (!r_11.1.1) (name_between c_0 913 969) ((false, ()), ()) fun r_12 =>
 let t30_13 : Bool := bif r_11.1.1 then true else r_12.1.1
 guardR (!t30_13) (some ()) () fun _ =>
 guardR (!t30_13) (name_between c_0 1024 1279) ((false, ()), ()) fun r_14 =>
 some (((bif t30_13 then true else r_14.1.1), ()), ())

noncomputable def name_Digit (c_0 : Int) : Option ((Bool × Unit) × (Unit)) :=
 (name_between c_0 48 57).bind fun r_1 =>
 some ((r_1.1.1, ()), ())

noncomputable def name_May_s0 (n_3_0 : Int) (t7_7_0 : List Int × Int) : Option (((Int × (List Int × Int) × Unit) × (Unit)) ⊕ ((Bool × Unit) × (Unit))) :=
 match nextS t7_7_0 with
 | .inl y_1 => let t34_2 : Bool := decide (n_3_0 ≥ 1)
  (guardR t34_2 (some ()) () fun _ =>
  guardR t34_2 (some (decide (n_3_0 ≤ 24))) false fun v_3 =>
  some (((bif t34_2 then v_3 else false), ()), ())).map .inr
 | .inr y_5 => (name_Letter y_5.1).bind fun r_6 =>
  guardR (!r_6.1.1) (some ()) () fun _ =>
  guardR (!r_6.1.1) (some (decide (n_3_0 = 0))) false fun v_7 =>
  guardR (!r_6.1.1) (some ()) () fun _ =>
  guardR ((!r_6.1.1) && (!v_7)) (some ()) () fun _ =>
  guardR ((!r_6.1.1) && (!v_7)) (name_Digit y_5.1) ((false, ()), ()) fun r_8 =>
  guardR ((!r_6.1.1) && (!v_7)) (some ()) () fun _ =>
  guardR ((!r_6.1.1) && (!v_7)) (some ()) () fun _ =>
  guardR (((!r_6.1.1) && (!v_7)) && (!r_8.1.1)) (some ()) () fun _ =>
  guardR (((!r_6.1.1) && (!v_7)) && (!r_8.1.1)) (some (!decide (y_5.1 = 45))) false fun v_9 =>
  guardR ((!r_6.1.1) && (!v_7)) (some ()) () fun _ =>
  let t24_10 : Bool := bif !r_8.1.1 then v_9 else false
  guardR ((!r_6.1.1) && (!v_7)) (some ()) () fun _ =>
  guardR (((!r_6.1.1) && (!v_7)) && t24_10) (some ()) () fun _ =>
  guardR (((!r_6.1.1) && (!v_7)) && t24_10) (some (!decide (y_5.1 = 46))) false fun v_11 =>
  guardR ((!r_6.1.1) && (!v_7)) (some ()) () fun _ =>
  guardR (!r_6.1.1) (some ()) () fun _ =>
  bif (bif !r_6.1.1 then (bif v_7 then true else (bif t24_10 then v_11 else false)) else false) then
   some (.inr ((false, ()), ()))
  else
  some (.inl (((IntKind.i64.wrap (n_3_0 + 1)), (t7_7_0.1, y_5.2), ()), ()))
noncomputable def name_May (s_0 : List Int) : Option ((Bool × Unit) × (Unit)) :=
 loopR (fun (z : (Int × (List Int × Int) × Unit) × (Unit)) => name_May_s0 z.1.1 z.1.2.1) ((0, (s_0, 0), ()), ())

noncomputable def ref05_more (c_0 : Int) : Option ((Bool × Unit) × (Unit)) :=
 let t4_1 : Bool := decide (c_0 ≥ 128)
 guardR t4_1 (some ()) () fun _ =>
 guardR t4_1 (some (decide (c_0 < 192))) false fun v_2 =>
 some (((bif t4_1 then v_2 else false), ()), ())

noncomputable def ref05_First (s_0 : List Int) : Option ((Int × Int × Unit) × (Unit)) :=
 bif (decide ((s_0.length : Int) = 0)) then
  some ((65533, 0, ()), ())
 else
 (rdI s_0 0).bind fun v_3 =>
 let t12_4 : Int := IntKind.i64.wrap v_3
 bif (decide (t12_4 < 128)) then
  some ((t12_4, 1, ()), ())
 else
 let t17_6 : Bool := decide (t12_4 ≥ 194)
 guardR t17_6 (some ()) () fun _ =>
 guardR t17_6 (some (decide (t12_4 < 224))) false fun v_7 =>
 let t21_8 : Bool := bif t17_6 then v_7 else false
 guardR t21_8 (some ()) () fun _ =>
 guardR t21_8 (some (s_0.length : Int)) 0 fun v_9 =>
 guardR t21_8 (some (decide (v_9 ≥ 2))) false fun v_10 =>
 let t26_11 : Bool := bif t21_8 then v_10 else false
 guardR t26_11 (some ()) () fun _ =>
 guardR t26_11 (rdI s_0 1) 0 fun v_12 =>
 guardR t26_11 (ref05_more v_12) ((false, ()), ()) fun r_13 =>
 bif (bif t26_11 then r_13.1.1 else false) then
  (rdI s_0 1).bind fun v_17 =>
  some (((IntKind.i64.wrap ((IntKind.i64.wrap ((IntKind.i64.wrap (64 * (IntKind.i64.wrap (t12_4 - 192)))) + (IntKind.i64.wrap v_17))) - 128)), 2, ()), ())
 else
 let t41_21 : Bool := decide (t12_4 ≥ 224)
 guardR t41_21 (some ()) () fun _ =>
 guardR t41_21 (some (decide (t12_4 < 240))) false fun v_22 =>
 let t45_23 : Bool := bif t41_21 then v_22 else false
 guardR t45_23 (some ()) () fun _ =>
 guardR t45_23 (some (s_0.length : Int)) 0 fun v_24 =>
 guardR t45_23 (some (decide (v_24 ≥ 3))) false fun v_25 =>
 let t50_26 : Bool := bif t45_23 then v_25 else false
 guardR t50_26 (some ()) () fun _ =>
 guardR t50_26 (rdI s_0 1) 0 fun v_27 =>
 guardR t50_26 (ref05_more v_27) ((false, ()), ()) fun r_28 =>
 let t55_29 : Bool := bif t50_26 then r_28.1.1 else false
 guardR t55_29 (some ()) () fun _ =>
 guardR t55_29 (rdI s_0 2) 0 fun v_30 =>
 guardR t55_29 (ref05_more v_30) ((false, ()), ()) fun r_31 =>
 bif (bif t55_29 then r_31.1.1 else false) then
  (rdI s_0 1).bind fun v_35 =>
  (rdI s_0 2).bind fun v_40 =>
  let t74_43 : Int := IntKind.i64.wrap ((IntKind.i64.wrap ((IntKind.i64.wrap ((IntKind.i64.wrap (4096 * (IntKind.i64.wrap (t12_4 - 224)))) + (IntKind.i64.wrap (64 * (IntKind.i64.wrap ((IntKind.i64.wrap v_35) - 128)))))) + (IntKind.i64.wrap v_40))) - 128)
  let t76_44 : Bool := decide (t74_43 ≥ 2048)
  guardR t76_44 (some ()) () fun _ =>
  guardR t76_44 (some (decide (t74_43 < 55296))) false fun v_45 =>
  guardR t76_44 (some ()) () fun _ =>
  guardR (t76_44 && (!v_45)) (some ()) () fun _ =>
  guardR (t76_44 && (!v_45)) (some (decide (t74_43 > 57343))) false fun v_46 =>
  guardR t76_44 (some ()) () fun _ =>
  bif (bif t76_44 then (bif v_45 then true else v_46) else false) then
   some ((t74_43, 3, ()), ())
  else
  let t87_49 : Bool := decide (t12_4 ≥ 240)
  guardR t87_49 (some ()) () fun _ =>
  guardR t87_49 (some (decide (t12_4 < 245))) false fun v_50 =>
  let t91_51 : Bool := bif t87_49 then v_50 else false
  guardR t91_51 (some ()) () fun _ =>
  guardR t91_51 (some (s_0.length : Int)) 0 fun v_52 =>
  guardR t91_51 (some (decide (v_52 ≥ 4))) false fun v_53 =>
  let t96_54 : Bool := bif t91_51 then v_53 else false
  guardR t96_54 (some ()) () fun _ =>
  guardR t96_54 (rdI s_0 1) 0 fun v_55 =>
  guardR t96_54 (ref05_more v_55) ((false, ()), ()) fun r_56 =>
  let t101_57 : Bool := bif t96_54 then r_56.1.1 else false
  guardR t101_57 (some ()) () fun _ =>
  guardR t101_57 (rdI s_0 2) 0 fun v_58 =>
  guardR t101_57 (ref05_more v_58) ((false, ()), ()) fun r_59 =>
  let t106_60 : Bool := bif t101_57 then r_59.1.1 else false
  guardR t106_60 (some ()) () fun _ =>
  guardR t106_60 (rdI s_0 3) 0 fun v_61 =>
  guardR t106_60 (ref05_more v_61) ((false, ()), ()) fun r_62 =>
  bif (bif t106_60 then r_62.1.1 else false) then
   (rdI s_0 1).bind fun v_66 =>
   (rdI s_0 2).bind fun v_71 =>
   (rdI s_0 3).bind fun v_76 =>
   let t131_79 : Int := IntKind.i64.wrap ((IntKind.i64.wrap ((IntKind.i64.wrap ((IntKind.i64.wrap ((IntKind.i64.wrap (262144 * (IntKind.i64.wrap (t12_4 - 240)))) + (IntKind.i64.wrap (4096 * (IntKind.i64.wrap ((IntKind.i64.wrap v_66) - 128)))))) + (IntKind.i64.wrap (64 * (IntKind.i64.wrap ((IntKind.i64.wrap v_71) - 128)))))) + (IntKind.i64.wrap v_76))) - 128)
   let t133_80 : Bool := decide (t131_79 ≥ 65536)
   guardR t133_80 (some ()) () fun _ =>
   guardR t133_80 (some (decide (t131_79 ≤ 1114111))) false fun v_81 =>
   bif (bif t133_80 then v_81 else false) then
    some ((t131_79, 4, ()), ())
   else
   some ((65533, 1, ()), ())
  else
  some ((65533, 1, ()), ())
 else
 let t87_83 : Bool := decide (t12_4 ≥ 240)
 guardR t87_83 (some ()) () fun _ =>
 guardR t87_83 (some (decide (t12_4 < 245))) false fun v_84 =>
 let t91_85 : Bool := bif t87_83 then v_84 else false
 guardR t91_85 (some ()) () fun _ =>
 guardR t91_85 (some (s_0.length : Int)) 0 fun v_86 =>
 guardR t91_85 (some (decide (v_86 ≥ 4))) false fun v_87 =>
 let t96_88 : Bool := bif t91_85 then v_87 else false
 guardR t96_88 (some ()) () fun _ =>
 guardR t96_88 (rdI s_0 1) 0 fun v_89 =>
 guardR t96_88 (ref05_more v_89) ((false, ()), ()) fun r_90 =>
 let t101_91 : Bool := bif t96_88 then r_90.1.1 else false
 guardR t101_91 (some ()) () fun _ =>
 guardR t101_91 (rdI s_0 2) 0 fun v_92 =>
 guardR t101_91 (ref05_more v_92) ((false, ()), ()) fun r_93 =>
 let t106_94 : Bool := bif t101_91 then r_93.1.1 else false
 guardR t106_94 (some ()) () fun _ =>
 guardR t106_94 (rdI s_0 3) 0 fun v_95 =>
 guardR t106_94 (ref05_more v_95) ((false, ()), ()) fun r_96 =>
 bif (bif t106_94 then r_96.1.1 else false) then
  (rdI s_0 1).bind fun v_100 =>
  (rdI s_0 2).bind fun v_105 =>
  (rdI s_0 3).bind fun v_110 =>
  let t131_113 : Int := IntKind.i64.wrap ((IntKind.i64.wrap ((IntKind.i64.wrap ((IntKind.i64.wrap ((IntKind.i64.wrap (262144 * (IntKind.i64.wrap (t12_4 - 240)))) + (IntKind.i64.wrap (4096 * (IntKind.i64.wrap ((IntKind.i64.wrap v_100) - 128)))))) + (IntKind.i64.wrap (64 * (IntKind.i64.wrap ((IntKind.i64.wrap v_105) - 128)))))) + (IntKind.i64.wrap v_110))) - 128)
  let t133_114 : Bool := decide (t131_113 ≥ 65536)
  guardR t133_114 (some ()) () fun _ =>
  guardR t133_114 (some (decide (t131_113 ≤ 1114111))) false fun v_115 =>
  bif (bif t133_114 then v_115 else false) then
   some ((t131_113, 4, ()), ())
  else
  some ((65533, 1, ()), ())
 else
 some ((65533, 1, ()), ())

noncomputable def ref05_Runes_s0 (s_0_0 : List Int) (l_3_0 : List Int) : Option ((((List Int) × (List Int) × Unit) × (Unit)) ⊕ (((List Int) × Unit) × (Unit))) :=
 bif (decide ((s_0_0.length : Int) > 0)) then
  (ref05_First s_0_0).bind fun r_3 =>
  (roomI 8 l_3_0 [r_3.1.1]).bind fun v_4 =>
  (subL s_0_0 r_3.1.2.1 (s_0_0.length : Int)).bind fun v_5 =>
  some (.inl ((v_5, v_4, ()), ()))
 else
 some (.inr ((l_3_0, ()), ()))
noncomputable def ref05_Runes (s_0 : List Int) : Option (((List Int) × Unit) × (Unit)) :=
 loopR (fun (z : ((List Int) × (List Int) × Unit) × (Unit)) => ref05_Runes_s0 z.1.1 z.1.2.1) ((s_0, [], ()), ())

noncomputable def ref05_Letter (c_0 : Int) : Option ((Bool × Unit) × (Unit)) :=
 let t4_1 : Bool := decide (c_0 ≥ 65)
 guardR t4_1 (some ()) () fun _ =>
 guardR t4_1 (some (decide (c_0 ≤ 90))) false fun v_2 =>
 let t8_3 : Bool := bif t4_1 then v_2 else false
 guardR (!t8_3) (some ()) () fun _ =>
 guardR (!t8_3) (some (decide (c_0 ≥ 97))) false fun v_4 =>
 guardR (!t8_3) (some ()) () fun _ =>
 guardR ((!t8_3) && v_4) (some ()) () fun _ =>
 guardR ((!t8_3) && v_4) (some (decide (c_0 ≤ 122))) false fun v_5 =>
 guardR (!t8_3) (some ()) () fun _ =>
 let t16_7 : Bool := bif t8_3 then true else (bif v_4 then v_5 else false)
 guardR (!t16_7) (some ()) () fun _ =>
 guardR (!t16_7) (some (decide (c_0 = 95))) false fun v_8 =>
 bif (bif t16_7 then true else v_8) then
  some ((true, ()), ())
 else
 let t22_10 : Bool := decide (c_0 = 215)
 guardR (!t22_10) (some ()) () fun _ =>
 guardR (!t22_10) (some (decide (c_0 = 247))) false fun v_11 =>
 let t26_12 : Bool := bif t22_10 then true else v_11
 guardR (!t26_12) (some ()) () fun _ =>
 guardR (!t26_12) (some (decide (c_0 = 930))) false fun v_13 =>
 bif (bif t26_12 then true else v_13) then
  some ((false, ()), ())
 else
 let t32_15 : Bool := decide (c_0 ≥ 192)
 guardR t32_15 (some ()) () fun _ =>
 guardR t32_15 (some (decide (c_0 ≤ 591))) false fun v_16 =>
 let t36_17 : Bool := bif t32_15 then v_16 else false
 guardR (!t36_17) (some ()) () fun _ =>
 guardR (!t36_17) (some (decide (c_0 ≥ 913))) false fun v_18 =>
 guardR (!t36_17) (some ()) () fun _ =>
 guardR ((!t36_17) && v_18) (some ()) () fun _ =>
 guardR ((!t36_17) && v_18) (some (decide (c_0 ≤ 969))) false fun v_19 =>
 guardR (!t36_17) (some ()) () fun _ =>
 let t44_21 : Bool := bif t36_17 then true else (bif v_18 then v_19 else false)
 guardR (!t44_21) (some ()) () fun _ =>
 guardR (!t44_21) (some (decide (c_0 ≥ 1024))) false fun v_22 =>
 guardR (!t44_21) (some ()) () fun _ =>
 guardR ((!t44_21) && v_22) (some ()) () fun _ =>
 guardR ((!t44_21) && v_22) (some (decide (c_0 ≤ 1279))) false fun v_23 =>
 guardR (!t44_21) (some ()) () fun _ =>
 some (((bif t44_21 then true else (bif v_22 then v_23 else false)), ()), ())

noncomputable def ref05_May_s0 (l_3_0 : List Int) (i_4_0 : Int) : Option ((((List Int) × Int × Unit) × (Unit)) ⊕ ((Bool × Unit) × (Unit))) :=
 bif (decide (i_4_0 < (l_3_0.length : Int))) then
  (Option.map (fun _ => i_4_0) (ckI i_4_0 l_3_0.length)).bind fun v_13 =>
  (rdI l_3_0 v_13).bind fun v_14 =>
  (ref05_Letter v_14).bind fun r_15 =>
  guardR (!r_15.1.1) (some ()) () fun _ =>
  guardR (!r_15.1.1) (some ()) () fun _ =>
  guardR (!r_15.1.1) (Option.map (fun _ => i_4_0) (ckI i_4_0 l_3_0.length)) 0 fun v_16 =>
  guardR (!r_15.1.1) (rdI l_3_0 v_16) 0 fun v_17 =>
  guardR (!r_15.1.1) (some (decide (v_17 ≥ 48))) false fun v_18 =>
  guardR (!r_15.1.1) (some ()) () fun _ =>
  guardR ((!r_15.1.1) && v_18) (some ()) () fun _ =>
  guardR ((!r_15.1.1) && v_18) (some ()) () fun _ =>
  guardR ((!r_15.1.1) && v_18) (Option.map (fun _ => i_4_0) (ckI i_4_0 l_3_0.length)) 0 fun v_19 =>
  guardR ((!r_15.1.1) && v_18) (rdI l_3_0 v_19) 0 fun v_20 =>
  guardR ((!r_15.1.1) && v_18) (some (decide (v_20 ≤ 57))) false fun v_21 =>
  guardR (!r_15.1.1) (some ()) () fun _ =>
  guardR (!r_15.1.1) (some ()) () fun _ =>
  let t48_23 : Bool := bif !r_15.1.1 then !(bif v_18 then v_21 else false) else false
  guardR t48_23 (some ()) () fun _ =>
  guardR t48_23 (some ()) () fun _ =>
  guardR t48_23 (Option.map (fun _ => i_4_0) (ckI i_4_0 l_3_0.length)) 0 fun v_24 =>
  guardR t48_23 (rdI l_3_0 v_24) 0 fun v_25 =>
  guardR t48_23 (some (!decide (v_25 = 45))) false fun v_26 =>
  let t55_27 : Bool := bif t48_23 then v_26 else false
  guardR t55_27 (some ()) () fun _ =>
  guardR t55_27 (some ()) () fun _ =>
  guardR t55_27 (Option.map (fun _ => i_4_0) (ckI i_4_0 l_3_0.length)) 0 fun v_28 =>
  guardR t55_27 (rdI l_3_0 v_28) 0 fun v_29 =>
  guardR t55_27 (some (!decide (v_29 = 46))) false fun v_30 =>
  bif (bif t55_27 then v_30 else false) then
   some (.inr ((false, ()), ()))
  else
  some (.inl ((l_3_0, (IntKind.i64.wrap (i_4_0 + 1)), ()), ()))
 else
 some (.inr ((true, ()), ()))
noncomputable def ref05_May (s_0 : List Int) : Option ((Bool × Unit) × (Unit)) :=
 (ref05_Runes s_0).bind fun r_1 =>
 let t9_3 : Bool := decide ((r_1.1.1.length : Int) < 1)
 guardR (!t9_3) (some ()) () fun _ =>
 guardR (!t9_3) (some (r_1.1.1.length : Int)) 0 fun v_4 =>
 guardR (!t9_3) (some (decide (v_4 > 24))) false fun v_5 =>
 let t14_6 : Bool := bif t9_3 then true else v_5
 guardR (!t14_6) (some ()) () fun _ =>
 guardR (!t14_6) (Option.map (fun _ => 0) (ckI 0 r_1.1.1.length)) 0 fun v_7 =>
 guardR (!t14_6) (rdI r_1.1.1 v_7) 0 fun v_8 =>
 guardR (!t14_6) (ref05_Letter v_8) ((false, ()), ()) fun r_9 =>
 guardR (!t14_6) (some ()) () fun _ =>
 bif (bif t14_6 then true else !r_9.1.1) then
  some ((false, ()), ())
 else
 loopR (fun (z : ((List Int) × Int × Unit) × (Unit)) => ref05_May_s0 z.1.1 z.1.2.1) ((r_1.1.1, 0, ()), ())

noncomputable def name_Clip_s0 (s_0_0 : List Int) (n_1_0 : Int) (t7_7_0 : List Int × Int) : Option ((((List Int) × Int × (List Int × Int) × Unit) × (Unit)) ⊕ (((List Int) × Unit) × (Unit))) :=
 match nextS t7_7_0 with
 | .inl y_1 => some (.inr ((s_0_0, ()), ()))
 | .inr y_2 => bif (decide (n_1_0 < 1)) then
   (subL s_0_0 0 t7_7_0.2).bind fun v_4 =>
   some (.inr ((v_4, ()), ()))
  else
  some (.inl ((s_0_0, (IntKind.i64.wrap (n_1_0 - 1)), (t7_7_0.1, y_2.2), ()), ()))
noncomputable def name_Clip (s_0 : List Int) (n_1 : Int) : Option (((List Int) × Unit) × (Unit)) :=
 loopR (fun (z : ((List Int) × Int × (List Int × Int) × Unit) × (Unit)) => name_Clip_s0 z.1.1 z.1.2.1 z.1.2.2.1) ((s_0, n_1, (s_0, 0), ()), ())

noncomputable def name_Runes_s0 (l_3_0 : List Int) (t7_7_0 : List Int × Int) : Option ((((List Int) × (List Int × Int) × Unit) × (Unit)) ⊕ (((List Int) × Unit) × (Unit))) :=
 match nextS t7_7_0 with
 | .inl y_1 => some (.inr ((l_3_0, ()), ()))
 | .inr y_2 => (roomI 4 l_3_0 [y_2.1]).bind fun v_3 =>
  some (.inl ((v_3, (t7_7_0.1, y_2.2), ()), ()))
noncomputable def name_Runes (s_0 : List Int) : Option (((List Int) × Unit) × (Unit)) :=
 loopR (fun (z : ((List Int) × (List Int × Int) × Unit) × (Unit)) => name_Runes_s0 z.1.1 z.1.2.1) (([], (s_0, 0), ()), ())

end Go.L

namespace Go.L
open Go Go.Pv
set_option maxRecDepth 100000

noncomputable def lex_skip_s0 (s_0_0 : List Int) (rest_3_0 : List Int) : Option ((((List Int) × (List Int) × Unit) × (Unit)) ⊕ ((Int × Unit) × (Unit))) :=
 (strings_TrimLeft rest_3_0 [32, 9, 10, 13]).bind fun r_1 =>
 (strings_HasPrefix r_1.1.1 [35]).bind fun r_2 =>
 bif !r_2.1.1 then
  some (.inr (((IntKind.i64.wrap ((s_0_0.length : Int) - (r_1.1.1.length : Int))), ()), ()))
 else
 (strings_Cut r_1.1.1 [10]).bind fun r_6 =>
 some (.inl ((s_0_0, r_6.1.2.1, ()), ()))
noncomputable def lex_skip (s_0 : List Int) : Option ((Int × Unit) × (Unit)) :=
 loopR (fun (z : ((List Int) × (List Int) × Unit) × (Unit)) => lex_skip_s0 z.1.1 z.1.2.1) ((s_0, s_0, ()), ())

noncomputable def lex_inner (c_0 : Int) : Option ((Bool × Unit) × (Unit)) :=
 (name_Letter c_0).bind fun r_1 =>
 guardR (!r_1.1.1) (some ()) () fun _ =>
 guardR (!r_1.1.1) (name_Digit c_0) ((false, ()), ()) fun r_2 =>
 let t8_3 : Bool := bif r_1.1.1 then true else r_2.1.1
 guardR (!t8_3) (some ()) () fun _ =>
 guardR (!t8_3) (some (decide (c_0 = 45))) false fun v_4 =>
 let t12_5 : Bool := bif t8_3 then true else v_4
 guardR (!t12_5) (some ()) () fun _ =>
 guardR (!t12_5) (some (decide (c_0 = 46))) false fun v_6 =>
 some (((bif t12_5 then true else v_6), ()), ())

noncomputable def lex_one_1 (c_0 : Int) : Option ((Bool × Unit) × (Unit)) :=
 (name_Letter c_0).bind fun r_1 =>
 guardR (!r_1.1.1) (some ()) () fun _ =>
 guardR (!r_1.1.1) (name_Digit c_0) ((false, ()), ()) fun r_2 =>
 let t8_3 : Bool := bif r_1.1.1 then true else r_2.1.1
 guardR (!t8_3) (some ()) () fun _ =>
 guardR (!t8_3) (some (decide (c_0 = 39))) false fun v_4 =>
 some (((bif t8_3 then true else v_4), ()), ())

noncomputable def lex_long_8cc_s0 (s_0_0 : List Int) (t8_8_0 : List Int × Int) : Option ((((List Int) × (List Int × Int) × Unit) × (Unit)) ⊕ ((Int × Unit) × (Unit))) :=
 match nextS t8_8_0 with
 | .inl y_1 => some (.inr (((s_0_0.length : Int), ()), ()))
 | .inr y_3 => (lex_inner y_3.1).bind fun r_4 =>
  bif !r_4.1.1 then
   some (.inr ((t8_8_0.2, ()), ()))
  else
  some (.inl ((s_0_0, (t8_8_0.1, y_3.2), ()), ()))
noncomputable def lex_long_8cc (s_0 : List Int) : Option ((Int × Unit) × (Unit)) :=
 loopR (fun (z : ((List Int) × (List Int × Int) × Unit) × (Unit)) => lex_long_8cc_s0 z.1.1 z.1.2.1) ((s_0, (s_0, 0), ()), ())

noncomputable def lex_long_b62_s0 (s_0_0 : List Int) (t8_8_0 : List Int × Int) : Option ((((List Int) × (List Int × Int) × Unit) × (Unit)) ⊕ ((Int × Unit) × (Unit))) :=
 match nextS t8_8_0 with
 | .inl y_1 => some (.inr (((s_0_0.length : Int), ()), ()))
 | .inr y_3 => (lex_one_1 y_3.1).bind fun r_4 =>
  bif !r_4.1.1 then
   some (.inr ((t8_8_0.2, ()), ()))
  else
  some (.inl ((s_0_0, (t8_8_0.1, y_3.2), ()), ()))
noncomputable def lex_long_b62 (s_0 : List Int) : Option ((Int × Unit) × (Unit)) :=
 loopR (fun (z : ((List Int) × (List Int × Int) × Unit) × (Unit)) => lex_long_b62_s0 z.1.1 z.1.2.1) ((s_0, (s_0, 0), ()), ())

noncomputable def lex_number (s_0 : List Int) (at_1 : Int) : Option (((Int × (List Int) × Int × (Int × Int × Int × Unit) × Int × Unit) × Int × Unit) × (Unit)) :=
 (strings_Contains s_0 [39]).bind fun r_1 =>
 bif r_1.1.1 then
  (vec_Parse s_0).bind fun r_2 =>
  some (((3, [], 0, r_2.1.1, at_1, ()), r_2.1.2.1, ()), ())
 else
 (strings_CutPrefix s_0 [48, 120]).bind fun r_3 =>
 bif r_3.1.2.1 then
  (word_Parse r_3.1.1 16).bind fun r_4 =>
  let t45_5 : Bool := decide (r_4.1.2.1 = 4)
  guardR (!t45_5) (some ()) () fun _ =>
  guardR (!t45_5) (some (decide (r_4.1.2.1 = 3))) false fun v_6 =>
  bif (bif t45_5 then true else v_6) then
   some (((2, [], 0, (0, 0, 0, ()), at_1, ()), 4, ()), ())
  else
  let t53_8 : Bool := !decide (r_4.1.2.1 = 0)
  guardR (!t53_8) (some ()) () fun _ =>
  guardR (!t53_8) (some r_4.1.1.1) 0 fun v_9 =>
  guardR (!t53_8) (some (decide (v_9 > 0))) false fun v_10 =>
  let t58_11 : Bool := bif t53_8 then true else v_10
  guardR (!t58_11) (some ()) () fun _ =>
  guardR (!t58_11) (some r_4.1.1.2.1) 0 fun v_12 =>
  guardR (!t58_11) (some (decide (v_12 > 9223372036854775807))) false fun v_13 =>
  bif (bif t58_11 then true else v_13) then
   some (((2, [], 0, (0, 0, 0, ()), at_1, ()), 7, ()), ())
  else
  some (((2, [], (IntKind.i64.wrap r_4.1.1.2.1), (0, 0, 0, ()), at_1, ()), 0, ()), ())
 else
 (word_Parse s_0 10).bind fun r_16 =>
 let t45_17 : Bool := decide (r_16.1.2.1 = 4)
 guardR (!t45_17) (some ()) () fun _ =>
 guardR (!t45_17) (some (decide (r_16.1.2.1 = 3))) false fun v_18 =>
 bif (bif t45_17 then true else v_18) then
  some (((2, [], 0, (0, 0, 0, ()), at_1, ()), 4, ()), ())
 else
 let t53_20 : Bool := !decide (r_16.1.2.1 = 0)
 guardR (!t53_20) (some ()) () fun _ =>
 guardR (!t53_20) (some r_16.1.1.1) 0 fun v_21 =>
 guardR (!t53_20) (some (decide (v_21 > 0))) false fun v_22 =>
 let t58_23 : Bool := bif t53_20 then true else v_22
 guardR (!t58_23) (some ()) () fun _ =>
 guardR (!t58_23) (some r_16.1.1.2.1) 0 fun v_24 =>
 guardR (!t58_23) (some (decide (v_24 > 9223372036854775807))) false fun v_25 =>
 bif (bif t58_23 then true else v_25) then
  some (((2, [], 0, (0, 0, 0, ()), at_1, ()), 7, ()), ())
 else
 some (((2, [], (IntKind.i64.wrap r_16.1.1.2.1), (0, 0, 0, ()), at_1, ()), 0, ()), ())

noncomputable def lex_one (s_0 : List Int) (at_1 : Int) : Option (((Int × (List Int) × Int × (Int × Int × Int × Unit) × Int × Unit) × Int × Int × Unit) × (Unit)) :=
 (name_Clip s_0 1).bind fun r_1 =>
 (name_Runes r_1.1.1).bind fun r_2 =>
 (Option.map (fun _ => 0) (ckI 0 r_2.1.1.length)).bind fun v_3 =>
 (rdI r_2.1.1 v_3).bind fun v_4 =>
 (strings_ContainsRune [123, 125, 40, 41, 91, 93, 59, 58, 44, 61, 47, 38] v_4).bind fun r_5 =>
 bif r_5.1.1 then
  (subL s_0 0 1).bind fun v_6 =>
  some (((0, v_6, 0, (0, 0, 0, ()), at_1, ()), 1, 0, ()), ())
 else
 (name_Letter v_4).bind fun r_7 =>
 bif r_7.1.1 then
  (lex_long_8cc s_0).bind fun r_8 =>
  (subL s_0 0 r_8.1.1).bind fun v_9 =>
  (name_May v_9).bind fun r_10 =>
  bif !r_10.1.1 then
   some (((0, [], 0, (0, 0, 0, ()), 0, ()), r_8.1.1, 2, ()), ())
  else
  (subL s_0 0 r_8.1.1).bind fun v_11 =>
  some (((1, v_11, 0, (0, 0, 0, ()), at_1, ()), r_8.1.1, 0, ()), ())
 else
 (name_Digit v_4).bind fun r_12 =>
 bif r_12.1.1 then
  (lex_long_b62 s_0).bind fun r_13 =>
  (subL s_0 0 r_13.1.1).bind fun v_14 =>
  (lex_number v_14 at_1).bind fun r_15 =>
  some ((r_15.1.1, r_13.1.1, r_15.1.2.1, ()), ())
 else
 some (((0, [], 0, (0, 0, 0, ()), 0, ()), 0, 4, ()), ())

noncomputable def lex_Scan_s0 (s_0_0 : List Int) (l_4_0 : List (Int × (List Int) × Int × (Int × Int × Int × Unit) × Int × Unit)) (at_5_0 : Int) : Option ((((List Int) × (List (Int × (List Int) × Int × (Int × Int × Int × Unit) × Int × Unit)) × Int × Unit) × (Unit)) ⊕ (((List (Int × (List Int) × Int × (Int × Int × Int × Unit) × Int × Unit)) × ((Option (Int × Int × Unit)) ⊕ Unit) × Unit) × (Unit))) :=
 bif (decide (at_5_0 < (s_0_0.length : Int))) then
  (subL s_0_0 at_5_0 (s_0_0.length : Int)).bind fun v_6 =>
  (lex_one v_6 at_5_0).bind fun r_7 =>
  bif (!decide (r_7.1.2.2.1 = 0)) then
   some (.inr (([], .inl (some (r_7.1.2.2.1, at_5_0, ())), ()), ()))
  else
  (roomI 64 l_4_0 [r_7.1.1]).bind fun v_9 =>
  let t43_10 : Int := IntKind.i64.wrap (at_5_0 + r_7.1.2.1)
  (subL s_0_0 t43_10 (s_0_0.length : Int)).bind fun v_11 =>
  (lex_skip v_11).bind fun r_12 =>
  some (.inl ((s_0_0, v_9, (IntKind.i64.wrap (t43_10 + r_12.1.1)), ()), ()))
 else
 some (.inr ((l_4_0, .inr (), ()), ()))
noncomputable def lex_Scan (s_0 : List Int) : Option (((List (Int × (List Int) × Int × (Int × Int × Int × Unit) × Int × Unit)) × ((Option (Int × Int × Unit)) ⊕ Unit) × Unit) × (Unit)) :=
 bif (decide ((s_0.length : Int) > 16384)) then
  some (([], .inl (some (2, 0, ())), ()), ())
 else
 (lex_skip s_0).bind fun r_3 =>
 loopR (fun (z : ((List Int) × (List (Int × (List Int) × Int × (Int × Int × Int × Unit) × Int × Unit)) × Int × Unit) × (Unit)) => lex_Scan_s0 z.1.1 z.1.2.1 z.1.2.2.1) ((s_0, [], r_3.1.1, ()), ())

noncomputable def ref06_Skip_s2 (s_0_2 : List Int) (at_1_2 : Int) : Option ((((List Int) × Int × Unit) × (Unit)) ⊕ ((((List Int) × Int × Unit) × (Unit)) ⊕ ((Int × Unit) × (Unit)))) :=
 let t18_6 : Bool := decide (at_1_2 < (s_0_2.length : Int))
 guardR t18_6 (some ()) () fun _ =>
 guardR t18_6 (some ()) () fun _ =>
 guardR t18_6 (rdI s_0_2 at_1_2) 0 fun v_7 =>
 guardR t18_6 (some (!decide (v_7 = 10))) false fun v_8 =>
 bif (bif t18_6 then v_8 else false) then
  some (.inl ((s_0_2, (IntKind.i64.wrap (at_1_2 + 1)), ()), ()))
 else
 some (.inr (.inl ((s_0_2, at_1_2, ()), ())))
noncomputable def ref06_Skip_s0 (s_0_0 : List Int) (at_1_0 : Int) : Option ((((List Int) × Int × Unit) × (Unit)) ⊕ ((Int × Unit) × (Unit))) :=
 bif (decide (at_1_0 < (s_0_0.length : Int))) then
  (rdI s_0_0 at_1_0).bind fun v_3 =>
  bif (decide (v_3 = 35)) then
   loopR (fun (z : ((List Int) × Int × Unit) × (Unit)) => ref06_Skip_s2 z.1.1 z.1.2.1) ((s_0_0, at_1_0, ()), ())
  else
  let t28_11 : Bool := decide (v_3 = 32)
  guardR (!t28_11) (some ()) () fun _ =>
  guardR (!t28_11) (some (decide (v_3 = 9))) false fun v_12 =>
  let t32_13 : Bool := bif t28_11 then true else v_12
  guardR (!t32_13) (some ()) () fun _ =>
  guardR (!t32_13) (some (decide (v_3 = 10))) false fun v_14 =>
  let t36_15 : Bool := bif t32_13 then true else v_14
  guardR (!t36_15) (some ()) () fun _ =>
  guardR (!t36_15) (some (decide (v_3 = 13))) false fun v_16 =>
  bif (bif t36_15 then true else v_16) then
   some (.inl ((s_0_0, (IntKind.i64.wrap (at_1_0 + 1)), ()), ()))
  else
  some (.inr ((at_1_0, ()), ()))
 else
 some (.inr ((at_1_0, ()), ()))
noncomputable def ref06_Skip (s_0 : List Int) (at_1 : Int) : Option ((Int × Unit) × (Unit)) :=
 loopR (fun (z : ((List Int) × Int × Unit) × (Unit)) => ref06_Skip_s0 z.1.1 z.1.2.1) ((s_0, at_1, ()), ())

noncomputable def ref06_digit (c_0 : Int) : Option ((Bool × Unit) × (Unit)) :=
 let t4_1 : Bool := decide (c_0 ≥ 48)
 guardR t4_1 (some ()) () fun _ =>
 guardR t4_1 (some (decide (c_0 ≤ 57))) false fun v_2 =>
 some (((bif t4_1 then v_2 else false), ()), ())

noncomputable def ref06_Number_s0 (s_0_0 : List Int) (i_7_0 : Int) (p4_0_0 : Int × (List Int) × Int × (Int × Int × Int × Unit) × Int × Unit) (p6_0_0 : Int × (List Int) × Int × (Int × Int × Int × Unit) × Int × Unit) : Option ((((List Int) × Int × Unit) × ((Int × (List Int) × Int × (Int × Int × Int × Unit) × Int × Unit) × (Int × (List Int) × Int × (Int × Int × Int × Unit) × Int × Unit) × Unit)) ⊕ (((Int × (List Int) × Int × (Int × Int × Int × Unit) × Int × Unit) × Int × Unit) × (Unit))) :=
 bif (decide (i_7_0 < (s_0_0.length : Int))) then
  (rdI s_0_0 i_7_0).bind fun v_3 =>
  bif (decide (v_3 = 39)) then
   (ref02_Parse s_0_0).bind fun r_5 =>
   some (.inr (((3, p6_0_0.2.1, p6_0_0.2.2.1, r_5.1.1, p6_0_0.2.2.2.2.1, ()), r_5.1.2.1, ()), ()))
  else
  some (.inl ((s_0_0, (IntKind.i64.wrap (i_7_0 + 1)), ()), (p4_0_0.1, p4_0_0.2.1, p4_0_0.2.2.1, (p4_0_0.2.2.2.1.1, p4_0_0.2.2.2.1.2.1, p4_0_0.2.2.2.1.2.2.1, ()), p4_0_0.2.2.2.2.1, ()), (p6_0_0.1, p6_0_0.2.1, p6_0_0.2.2.1, (p6_0_0.2.2.2.1.1, p6_0_0.2.2.2.1.2.1, p6_0_0.2.2.2.1.2.2.1, ()), p6_0_0.2.2.2.2.1, ()), ()))
 else
 let t39_8 : Bool := decide ((s_0_0.length : Int) ≥ 2)
 (guardR t39_8 (some ()) () fun _ =>
 guardR t39_8 (subL s_0_0 0 2) [] fun v_9 =>
 guardR t39_8 (some (decide (v_9 = [48, 120]))) false fun v_10 =>
 bif (bif t39_8 then v_10 else false) then
  (subL s_0_0 2 (s_0_0.length : Int)).bind fun v_12 =>
  (ref01_Parse v_12 16).bind fun r_13 =>
  let t54_14 : Bool := decide (r_13.1.2.1 = 4)
  guardR (!t54_14) (some ()) () fun _ =>
  guardR (!t54_14) (some (decide (r_13.1.2.1 = 3))) false fun v_15 =>
  bif (bif t54_14 then true else v_15) then
   some (((p6_0_0.1, p6_0_0.2.1, p6_0_0.2.2.1, (p6_0_0.2.2.2.1.1, p6_0_0.2.2.2.1.2.1, p6_0_0.2.2.2.1.2.2.1, ()), p6_0_0.2.2.2.2.1, ()), 4, ()), ())
  else
  let t61_17 : Bool := !decide (r_13.1.2.1 = 0)
  guardR (!t61_17) (some r_13.1.1) (List.replicate 128 false) fun v_18 =>
  guardR (!t61_17) (ref01_Len v_18) ((0, ()), ()) fun r_19 =>
  guardR (!t61_17) (some (decide (r_19.1.1 > 63))) false fun v_20 =>
  bif (bif t61_17 then true else v_20) then
   some (((p6_0_0.1, p6_0_0.2.1, p6_0_0.2.2.1, (p6_0_0.2.2.2.1.1, p6_0_0.2.2.2.1.2.1, p6_0_0.2.2.2.1.2.2.1, ()), p6_0_0.2.2.2.2.1, ()), 7, ()), ())
  else
  (ref01_Halves r_13.1.1).bind fun r_22 =>
  some (((p6_0_0.1, p6_0_0.2.1, (IntKind.i64.wrap r_22.1.2.1), (p6_0_0.2.2.2.1.1, p6_0_0.2.2.2.1.2.1, p6_0_0.2.2.2.1.2.2.1, ()), p6_0_0.2.2.2.2.1, ()), 0, ()), ())
 else
 (ref01_Parse s_0_0 10).bind fun r_24 =>
 let t54_25 : Bool := decide (r_24.1.2.1 = 4)
 guardR (!t54_25) (some ()) () fun _ =>
 guardR (!t54_25) (some (decide (r_24.1.2.1 = 3))) false fun v_26 =>
 bif (bif t54_25 then true else v_26) then
  some (((p6_0_0.1, p6_0_0.2.1, p6_0_0.2.2.1, (p6_0_0.2.2.2.1.1, p6_0_0.2.2.2.1.2.1, p6_0_0.2.2.2.1.2.2.1, ()), p6_0_0.2.2.2.2.1, ()), 4, ()), ())
 else
 let t61_28 : Bool := !decide (r_24.1.2.1 = 0)
 guardR (!t61_28) (some r_24.1.1) (List.replicate 128 false) fun v_29 =>
 guardR (!t61_28) (ref01_Len v_29) ((0, ()), ()) fun r_30 =>
 guardR (!t61_28) (some (decide (r_30.1.1 > 63))) false fun v_31 =>
 bif (bif t61_28 then true else v_31) then
  some (((p6_0_0.1, p6_0_0.2.1, p6_0_0.2.2.1, (p6_0_0.2.2.2.1.1, p6_0_0.2.2.2.1.2.1, p6_0_0.2.2.2.1.2.2.1, ()), p6_0_0.2.2.2.2.1, ()), 7, ()), ())
 else
 (ref01_Halves r_24.1.1).bind fun r_33 =>
 some (((p6_0_0.1, p6_0_0.2.1, (IntKind.i64.wrap r_33.1.2.1), (p6_0_0.2.2.2.1.1, p6_0_0.2.2.2.1.2.1, p6_0_0.2.2.2.1.2.2.1, ()), p6_0_0.2.2.2.2.1, ()), 0, ()), ())).map .inr
noncomputable def ref06_Number (s_0 : List Int) (at_1 : Int) : Option (((Int × (List Int) × Int × (Int × Int × Int × Unit) × Int × Unit) × Int × Unit) × (Unit)) :=
 loopR (fun (z : ((List Int) × Int × Unit) × ((Int × (List Int) × Int × (Int × Int × Int × Unit) × Int × Unit) × (Int × (List Int) × Int × (Int × Int × Int × Unit) × Int × Unit) × Unit)) => ref06_Number_s0 z.1.1 z.1.2.1 z.2.1 z.2.2.1) ((s_0, 0, ()), (0, [], 0, (0, 0, 0, ()), 0, ()), (2, [], 0, (0, 0, 0, ()), at_1, ()), ())

noncomputable def ref06_Scan_s2 (s_0_2 : List Int) (l_5_2 : List (Int × (List Int) × Int × (Int × Int × Int × Unit) × Int × Unit)) (at_6_2 : Int) (word_10_2 : Bool) (end_11_2 : Int) : Option ((((List Int) × (List (Int × (List Int) × Int × (Int × Int × Int × Unit) × Int × Unit)) × Int × Bool × Int × Unit) × (Unit)) ⊕ ((((List Int) × (List (Int × (List Int) × Int × (Int × Int × Int × Unit) × Int × Unit)) × Int × Unit) × (Unit)) ⊕ (((List (Int × (List Int) × Int × (Int × Int × Int × Unit) × Int × Unit)) × Int × Int × Unit) × (Unit)))) :=
 bif (decide (end_11_2 < (s_0_2.length : Int))) then
  (subL s_0_2 end_11_2 (s_0_2.length : Int)).bind fun v_41 =>
  (ref05_First v_41).bind fun r_42 =>
  (ref05_Letter r_42.1.1).bind fun r_43 =>
  guardR (!r_43.1.1) (some ()) () fun _ =>
  guardR (!r_43.1.1) (ref06_digit r_42.1.1) ((false, ()), ()) fun r_44 =>
  guardR (!r_43.1.1) (some ()) () fun _ =>
  let t120_45 : Bool := bif !r_43.1.1 then !r_44.1.1 else false
  guardR t120_45 (some ()) () fun _ =>
  guardR t120_45 (some ()) () fun _ =>
  guardR (t120_45 && word_10_2) (some ()) () fun _ =>
  guardR (t120_45 && word_10_2) (some (decide (r_42.1.1 = 45))) false fun v_46 =>
  guardR (t120_45 && word_10_2) (some ()) () fun _ =>
  guardR ((t120_45 && word_10_2) && (!v_46)) (some ()) () fun _ =>
  guardR ((t120_45 && word_10_2) && (!v_46)) (some (decide (r_42.1.1 = 46))) false fun v_47 =>
  guardR (t120_45 && word_10_2) (some ()) () fun _ =>
  guardR t120_45 (some ()) () fun _ =>
  guardR t120_45 (some ()) () fun _ =>
  let t132_50 : Bool := bif t120_45 then !(bif word_10_2 then (bif v_46 then true else v_47) else false) else false
  guardR t132_50 (some ()) () fun _ =>
  guardR t132_50 (some ()) () fun _ =>
  guardR t132_50 (some ()) () fun _ =>
  guardR (t132_50 && (!word_10_2)) (some ()) () fun _ =>
  guardR (t132_50 && (!word_10_2)) (some (decide (r_42.1.1 = 39))) false fun v_51 =>
  guardR t132_50 (some ()) () fun _ =>
  guardR t132_50 (some ()) () fun _ =>
  bif (bif t132_50 then !(bif !word_10_2 then v_51 else false) else false) then
   (bif word_10_2 then
    (subL s_0_2 at_6_2 end_11_2).bind fun v_54 =>
    (ref05_May v_54).bind fun r_55 =>
    bif !r_55.1.1 then
     some (.inr (([], at_6_2, 2, ()), ()))
    else
    (subL s_0_2 at_6_2 end_11_2).bind fun v_56 =>
    (roomI 64 l_5_2 [(1, v_56, 0, (0, 0, 0, ()), at_6_2, ())]).bind fun v_57 =>
    (ref06_Skip s_0_2 end_11_2).bind fun r_58 =>
    some (.inl ((s_0_2, v_57, r_58.1.1, ()), ()))
   else
   (subL s_0_2 at_6_2 end_11_2).bind fun v_59 =>
   (ref06_Number v_59 at_6_2).bind fun r_60 =>
   bif (!decide (r_60.1.2.1 = 0)) then
    some (.inr (([], at_6_2, r_60.1.2.1, ()), ()))
   else
   (roomI 64 l_5_2 [r_60.1.1]).bind fun v_62 =>
   (ref06_Skip s_0_2 end_11_2).bind fun r_63 =>
   some (.inl ((s_0_2, v_62, r_63.1.1, ()), ()))).map .inr
  else
  some (.inl ((s_0_2, l_5_2, at_6_2, word_10_2, (IntKind.i64.wrap (end_11_2 + r_42.1.2.1)), ()), ()))
 else
 (bif word_10_2 then
  (subL s_0_2 at_6_2 end_11_2).bind fun v_65 =>
  (ref05_May v_65).bind fun r_66 =>
  bif !r_66.1.1 then
   some (.inr (([], at_6_2, 2, ()), ()))
  else
  (subL s_0_2 at_6_2 end_11_2).bind fun v_67 =>
  (roomI 64 l_5_2 [(1, v_67, 0, (0, 0, 0, ()), at_6_2, ())]).bind fun v_68 =>
  (ref06_Skip s_0_2 end_11_2).bind fun r_69 =>
  some (.inl ((s_0_2, v_68, r_69.1.1, ()), ()))
 else
 (subL s_0_2 at_6_2 end_11_2).bind fun v_70 =>
 (ref06_Number v_70 at_6_2).bind fun r_71 =>
 bif (!decide (r_71.1.2.1 = 0)) then
  some (.inr (([], at_6_2, r_71.1.2.1, ()), ()))
 else
 (roomI 64 l_5_2 [r_71.1.1]).bind fun v_73 =>
 (ref06_Skip s_0_2 end_11_2).bind fun r_74 =>
 some (.inl ((s_0_2, v_73, r_74.1.1, ()), ()))).map .inr
noncomputable def ref06_Scan_s0 (s_0_0 : List Int) (l_5_0 : List (Int × (List Int) × Int × (Int × Int × Int × Unit) × Int × Unit)) (at_6_0 : Int) : Option ((((List Int) × (List (Int × (List Int) × Int × (Int × Int × Int × Unit) × Int × Unit)) × Int × Unit) × (Unit)) ⊕ (((List (Int × (List Int) × Int × (Int × Int × Int × Unit) × Int × Unit)) × Int × Int × Unit) × (Unit))) :=
 bif (decide (at_6_0 < (s_0_0.length : Int))) then
  (subL s_0_0 at_6_0 (s_0_0.length : Int)).bind fun v_6 =>
  (ref05_First v_6).bind fun r_7 =>
  let t31_8 : Bool := decide (r_7.1.1 = 123)
  guardR (!t31_8) (some ()) () fun _ =>
  guardR (!t31_8) (some (decide (r_7.1.1 = 125))) false fun v_9 =>
  let t35_10 : Bool := bif t31_8 then true else v_9
  guardR (!t35_10) (some ()) () fun _ =>
  guardR (!t35_10) (some (decide (r_7.1.1 = 40))) false fun v_11 =>
  let t39_12 : Bool := bif t35_10 then true else v_11
  guardR (!t39_12) (some ()) () fun _ =>
  guardR (!t39_12) (some (decide (r_7.1.1 = 41))) false fun v_13 =>
  let t43_14 : Bool := bif t39_12 then true else v_13
  guardR (!t43_14) (some ()) () fun _ =>
  guardR (!t43_14) (some (decide (r_7.1.1 = 91))) false fun v_15 =>
  let t47_16 : Bool := bif t43_14 then true else v_15
  guardR (!t47_16) (some ()) () fun _ =>
  guardR (!t47_16) (some (decide (r_7.1.1 = 93))) false fun v_17 =>
  let t51_18 : Bool := bif t47_16 then true else v_17
  guardR (!t51_18) (some ()) () fun _ =>
  guardR (!t51_18) (some (decide (r_7.1.1 = 59))) false fun v_19 =>
  let t55_20 : Bool := bif t51_18 then true else v_19
  guardR (!t55_20) (some ()) () fun _ =>
  guardR (!t55_20) (some (decide (r_7.1.1 = 58))) false fun v_21 =>
  let t59_22 : Bool := bif t55_20 then true else v_21
  guardR (!t59_22) (some ()) () fun _ =>
  guardR (!t59_22) (some (decide (r_7.1.1 = 44))) false fun v_23 =>
  let t63_24 : Bool := bif t59_22 then true else v_23
  guardR (!t63_24) (some ()) () fun _ =>
  guardR (!t63_24) (some (decide (r_7.1.1 = 61))) false fun v_25 =>
  let t67_26 : Bool := bif t63_24 then true else v_25
  guardR (!t67_26) (some ()) () fun _ =>
  guardR (!t67_26) (some (decide (r_7.1.1 = 47))) false fun v_27 =>
  let t71_28 : Bool := bif t67_26 then true else v_27
  guardR (!t71_28) (some ()) () fun _ =>
  guardR (!t71_28) (some (decide (r_7.1.1 = 38))) false fun v_29 =>
  bif (bif t71_28 then true else v_29) then
   (subL s_0_0 at_6_0 (IntKind.i64.wrap (at_6_0 + 1))).bind fun v_32 =>
   (roomI 64 l_5_0 [(0, v_32, 0, (0, 0, 0, ()), at_6_0, ())]).bind fun v_33 =>
   (ref06_Skip s_0_0 (IntKind.i64.wrap (at_6_0 + 1))).bind fun r_35 =>
   some (.inl ((s_0_0, v_33, r_35.1.1, ()), ()))
  else
  (ref05_Letter r_7.1.1).bind fun r_36 =>
  guardR (!r_36.1.1) (some ()) () fun _ =>
  guardR (!r_36.1.1) (ref06_digit r_7.1.1) ((false, ()), ()) fun r_37 =>
  guardR (!r_36.1.1) (some ()) () fun _ =>
  bif (bif !r_36.1.1 then !r_37.1.1 else false) then
   some (.inr (([], at_6_0, 4, ()), ()))
  else
  loopR (fun (z : ((List Int) × (List (Int × (List Int) × Int × (Int × Int × Int × Unit) × Int × Unit)) × Int × Bool × Int × Unit) × (Unit)) => ref06_Scan_s2 z.1.1 z.1.2.1 z.1.2.2.1 z.1.2.2.2.1 z.1.2.2.2.2.1) ((s_0_0, l_5_0, at_6_0, r_36.1.1, at_6_0, ()), ())
 else
 some (.inr ((l_5_0, 0, 0, ()), ()))
noncomputable def ref06_Scan (s_0 : List Int) : Option (((List (Int × (List Int) × Int × (Int × Int × Int × Unit) × Int × Unit)) × Int × Int × Unit) × (Unit)) :=
 bif (decide ((s_0.length : Int) > 16384)) then
  some (([], 0, 2, ()), ())
 else
 (ref06_Skip s_0 0).bind fun r_3 =>
 loopR (fun (z : ((List Int) × (List (Int × (List Int) × Int × (Int × Int × Int × Unit) × Int × Unit)) × Int × Unit) × (Unit)) => ref06_Scan_s0 z.1.1 z.1.2.1 z.1.2.2.1) ((s_0, [], r_3.1.1, ()), ())

noncomputable def lex_Why_8d8 (err_0 : (Option (Int × Int × Unit)) ⊕ Unit) : Option ((Int × Int × Unit) × (Unit)) :=
 bif (isNil1 err_0) then
  some ((0, 0, ()), ())
 else
 let t11_2 : Option (Int × Int × Unit) := (getAlt0 err_0).getD none
 let t12_3 : Bool := (getAlt0 err_0).isSome
 guardR (!(!t12_3)) (some ()) () fun _ =>
 guardR (!(!t12_3)) (some (t11_2.isNone)) false fun v_4 =>
 bif (bif !t12_3 then true else v_4) then
  some ((10, 0, ()), ())
 else
 t11_2.bind fun v_6 =>
 t11_2.bind fun v_7 =>
 some ((v_6.1, v_7.2.1, ()), ())

noncomputable def ref06_Text (t_0 : Int × (List Int) × Int × (Int × Int × Int × Unit) × Int × Unit) : Option (((List Int) × Unit) × (Unit)) :=
 bif (decide (t_0.1 = 0)) then
  some ((t_0.2.1, ()), ())
 else
 bif (decide (t_0.1 = 1)) then
  some ((t_0.2.1, ()), ())
 else
 bif (decide (t_0.1 = 2)) then
  bif (decide (t_0.2.2.1 < 0)) then
   some (([], ()), ())
  else
  (ref01_Of 0 (IntKind.u64.wrap t_0.2.2.1)).bind fun r_6 =>
  (ref01_Text r_6.1.1 10).bind fun r_7 =>
  some ((r_7.1.1, ()), ())
 else
 bif (decide (t_0.1 = 3)) then
  (ref02_Text (t_0.2.2.2.1.1, t_0.2.2.2.1.2.1, t_0.2.2.2.1.2.2.1, ())).bind fun r_9 =>
  some ((r_9.1.1, ()), ())
 else
 some (([], ()), ())

noncomputable def lex_digits (n_0 : Int) : Option (((List Int) × Unit) × (Unit)) :=
 bif (decide (n_0 < 0)) then
  some (([], ()), ())
 else
 (word_Text (0, (IntKind.u64.wrap n_0), ()) 10).bind fun r_3 =>
 some ((r_3.1.1, ()), ())

noncomputable def lex_Text (t_0 : Int × (List Int) × Int × (Int × Int × Int × Unit) × Int × Unit) : Option (((List Int) × Unit) × (Unit)) :=
 bif (decide (t_0.1 = 0)) then
  some ((t_0.2.1, ()), ())
 else
 bif (decide (t_0.1 = 1)) then
  some ((t_0.2.1, ()), ())
 else
 bif (decide (t_0.1 = 2)) then
  (lex_digits t_0.2.2.1).bind fun r_4 =>
  some ((r_4.1.1, ()), ())
 else
 bif (decide (t_0.1 = 3)) then
  (vec_Text (t_0.2.2.2.1.1, t_0.2.2.2.1.2.1, t_0.2.2.2.1.2.2.1, ())).bind fun r_6 =>
  some ((r_6.1.1, ()), ())
 else
 some (([], ()), ())

noncomputable def lex_Join_s0 (out_3_0 : List (List Int)) (t6_6_0 : List (Int × (List Int) × Int × (Int × Int × Int × Unit) × Int × Unit)) (t7_7_0 : Int) (t8_8_0 : Int) : Option ((((List (List Int)) × (List (Int × (List Int) × Int × (Int × Int × Int × Unit) × Int × Unit)) × Int × Int × Unit) × (Unit)) ⊕ (((List Int) × Unit) × (Unit))) :=
 bif (decide (t8_8_0 < t7_7_0)) then
  (rdI t6_6_0 t8_8_0).bind fun v_3 =>
  (lex_Text v_3).bind fun r_4 =>
  (roomI 16 out_3_0 [r_4.1.1]).bind fun v_5 =>
  some (.inl ((v_5, t6_6_0, t7_7_0, (IntKind.i64.wrap (t8_8_0 + 1)), ()), ()))
 else
 ((strings_Join out_3_0 [32]).bind fun r_7 =>
 some ((r_7.1.1, ()), ())).map .inr
noncomputable def lex_Join (l_0 : List (Int × (List Int) × Int × (Int × Int × Int × Unit) × Int × Unit)) : Option (((List Int) × Unit) × (Unit)) :=
 loopR (fun (z : ((List (List Int)) × (List (Int × (List Int) × Int × (Int × Int × Int × Unit) × Int × Unit)) × Int × Int × Unit) × (Unit)) => lex_Join_s0 z.1.1 z.1.2.1 z.1.2.2.1 z.1.2.2.2.1) (([], l_0, (l_0.length : Int), 0, ()), ())

noncomputable def lex_Fault_Error_d35 (f_0 : Unit) : Option (((List Int) × Unit) × (Unit)) :=
 some (([], ()), ())

noncomputable def lex_Fault_Error_bca (f_0 : Option (Int × Int × Unit)) : Option (((List Int) × Unit) × (Unit)) :=
 bif f_0.isNone then
  some (([], ()), ())
 else
 f_0.bind fun v_1 =>
 (lex_digits v_1.1).bind fun r_2 =>
 (catI [102, 97, 117, 108, 116, 32] r_2.1.1).bind fun v_3 =>
 (catI v_3 [32, 97, 116, 32]).bind fun v_4 =>
 f_0.bind fun v_5 =>
 (lex_digits v_5.2.1).bind fun r_6 =>
 (catI v_4 r_6.1.1).bind fun v_7 =>
 some ((v_7, ()), ())

end Go.L
