/- The functions that the statements reach as plain Lean, and what they compute. -/
import Derived.Test.YtnaclmcmicckeaaQ5

set_option linter.unusedSimpArgs false
set_option linter.unusedVariables false

namespace Go.L
open Go Go.Pv
set_option maxRecDepth 100000

noncomputable abbrev bits_Sub64 := sub64F

noncomputable def bits_Len64 (x_0 : Int) : Option ((Int × Unit) × (Unit)) :=
 bif (decide (x_0 ≥ 4294967296)) then
  let t6_2 : Int := x_0.fdiv (2 ^ 32)
  bif (decide (t6_2 ≥ 65536)) then
   let t10_4 : Int := t6_2.fdiv (2 ^ 16)
   let t12_5 : Int := IntKind.i64.wrap (32 + 16)
   bif (decide (t10_4 ≥ 256)) then
    (rdI [0, 1, 2, 2, 3, 3, 3, 3, 4, 4, 4, 4, 4, 4, 4, 4, 5, 5, 5, 5, 5, 5, 5, 5, 5, 5, 5, 5, 5, 5, 5, 5, 6, 6, 6, 6, 6, 6, 6, 6, 6, 6, 6, 6, 6, 6, 6, 6, 6, 6, 6, 6, 6, 6, 6, 6, 6, 6, 6, 6, 6, 6, 6, 6, 7, 7, 7, 7, 7, 7, 7, 7, 7, 7, 7, 7, 7, 7, 7, 7, 7, 7, 7, 7, 7, 7, 7, 7, 7, 7, 7, 7, 7, 7, 7, 7, 7, 7, 7, 7, 7, 7, 7, 7, 7, 7, 7, 7, 7, 7, 7, 7, 7, 7, 7, 7, 7, 7, 7, 7, 7, 7, 7, 7, 7, 7, 7, 7, 8, 8, 8, 8, 8, 8, 8, 8, 8, 8, 8, 8, 8, 8, 8, 8, 8, 8, 8, 8, 8, 8, 8, 8, 8, 8, 8, 8, 8, 8, 8, 8, 8, 8, 8, 8, 8, 8, 8, 8, 8, 8, 8, 8, 8, 8, 8, 8, 8, 8, 8, 8, 8, 8, 8, 8, 8, 8, 8, 8, 8, 8, 8, 8, 8, 8, 8, 8, 8, 8, 8, 8, 8, 8, 8, 8, 8, 8, 8, 8, 8, 8, 8, 8, 8, 8, 8, 8, 8, 8, 8, 8, 8, 8, 8, 8, 8, 8, 8, 8, 8, 8, 8, 8, 8, 8, 8, 8, 8, 8, 8, 8, 8, 8, 8, 8, 8, 8, 8, 8, 8, 8, 8, 8, 8, 8, 8, 8] (IntKind.u8.wrap (t10_4.fdiv (2 ^ 8)))).bind fun v_10 =>
    some (((IntKind.i64.wrap ((IntKind.i64.wrap (t12_5 + 8)) + (IntKind.i64.wrap v_10))), ()), ())
   else
   (rdI [0, 1, 2, 2, 3, 3, 3, 3, 4, 4, 4, 4, 4, 4, 4, 4, 5, 5, 5, 5, 5, 5, 5, 5, 5, 5, 5, 5, 5, 5, 5, 5, 6, 6, 6, 6, 6, 6, 6, 6, 6, 6, 6, 6, 6, 6, 6, 6, 6, 6, 6, 6, 6, 6, 6, 6, 6, 6, 6, 6, 6, 6, 6, 6, 7, 7, 7, 7, 7, 7, 7, 7, 7, 7, 7, 7, 7, 7, 7, 7, 7, 7, 7, 7, 7, 7, 7, 7, 7, 7, 7, 7, 7, 7, 7, 7, 7, 7, 7, 7, 7, 7, 7, 7, 7, 7, 7, 7, 7, 7, 7, 7, 7, 7, 7, 7, 7, 7, 7, 7, 7, 7, 7, 7, 7, 7, 7, 7, 8, 8, 8, 8, 8, 8, 8, 8, 8, 8, 8, 8, 8, 8, 8, 8, 8, 8, 8, 8, 8, 8, 8, 8, 8, 8, 8, 8, 8, 8, 8, 8, 8, 8, 8, 8, 8, 8, 8, 8, 8, 8, 8, 8, 8, 8, 8, 8, 8, 8, 8, 8, 8, 8, 8, 8, 8, 8, 8, 8, 8, 8, 8, 8, 8, 8, 8, 8, 8, 8, 8, 8, 8, 8, 8, 8, 8, 8, 8, 8, 8, 8, 8, 8, 8, 8, 8, 8, 8, 8, 8, 8, 8, 8, 8, 8, 8, 8, 8, 8, 8, 8, 8, 8, 8, 8, 8, 8, 8, 8, 8, 8, 8, 8, 8, 8, 8, 8, 8, 8, 8, 8, 8, 8, 8, 8, 8, 8] (IntKind.u8.wrap t10_4)).bind fun v_14 =>
   some (((IntKind.i64.wrap (t12_5 + (IntKind.i64.wrap v_14))), ()), ())
  else
  bif (decide (t6_2 ≥ 256)) then
   (rdI [0, 1, 2, 2, 3, 3, 3, 3, 4, 4, 4, 4, 4, 4, 4, 4, 5, 5, 5, 5, 5, 5, 5, 5, 5, 5, 5, 5, 5, 5, 5, 5, 6, 6, 6, 6, 6, 6, 6, 6, 6, 6, 6, 6, 6, 6, 6, 6, 6, 6, 6, 6, 6, 6, 6, 6, 6, 6, 6, 6, 6, 6, 6, 6, 7, 7, 7, 7, 7, 7, 7, 7, 7, 7, 7, 7, 7, 7, 7, 7, 7, 7, 7, 7, 7, 7, 7, 7, 7, 7, 7, 7, 7, 7, 7, 7, 7, 7, 7, 7, 7, 7, 7, 7, 7, 7, 7, 7, 7, 7, 7, 7, 7, 7, 7, 7, 7, 7, 7, 7, 7, 7, 7, 7, 7, 7, 7, 7, 8, 8, 8, 8, 8, 8, 8, 8, 8, 8, 8, 8, 8, 8, 8, 8, 8, 8, 8, 8, 8, 8, 8, 8, 8, 8, 8, 8, 8, 8, 8, 8, 8, 8, 8, 8, 8, 8, 8, 8, 8, 8, 8, 8, 8, 8, 8, 8, 8, 8, 8, 8, 8, 8, 8, 8, 8, 8, 8, 8, 8, 8, 8, 8, 8, 8, 8, 8, 8, 8, 8, 8, 8, 8, 8, 8, 8, 8, 8, 8, 8, 8, 8, 8, 8, 8, 8, 8, 8, 8, 8, 8, 8, 8, 8, 8, 8, 8, 8, 8, 8, 8, 8, 8, 8, 8, 8, 8, 8, 8, 8, 8, 8, 8, 8, 8, 8, 8, 8, 8, 8, 8, 8, 8, 8, 8, 8, 8] (IntKind.u8.wrap (t6_2.fdiv (2 ^ 8)))).bind fun v_21 =>
   some (((IntKind.i64.wrap ((IntKind.i64.wrap (32 + 8)) + (IntKind.i64.wrap v_21))), ()), ())
  else
  (rdI [0, 1, 2, 2, 3, 3, 3, 3, 4, 4, 4, 4, 4, 4, 4, 4, 5, 5, 5, 5, 5, 5, 5, 5, 5, 5, 5, 5, 5, 5, 5, 5, 6, 6, 6, 6, 6, 6, 6, 6, 6, 6, 6, 6, 6, 6, 6, 6, 6, 6, 6, 6, 6, 6, 6, 6, 6, 6, 6, 6, 6, 6, 6, 6, 7, 7, 7, 7, 7, 7, 7, 7, 7, 7, 7, 7, 7, 7, 7, 7, 7, 7, 7, 7, 7, 7, 7, 7, 7, 7, 7, 7, 7, 7, 7, 7, 7, 7, 7, 7, 7, 7, 7, 7, 7, 7, 7, 7, 7, 7, 7, 7, 7, 7, 7, 7, 7, 7, 7, 7, 7, 7, 7, 7, 7, 7, 7, 7, 8, 8, 8, 8, 8, 8, 8, 8, 8, 8, 8, 8, 8, 8, 8, 8, 8, 8, 8, 8, 8, 8, 8, 8, 8, 8, 8, 8, 8, 8, 8, 8, 8, 8, 8, 8, 8, 8, 8, 8, 8, 8, 8, 8, 8, 8, 8, 8, 8, 8, 8, 8, 8, 8, 8, 8, 8, 8, 8, 8, 8, 8, 8, 8, 8, 8, 8, 8, 8, 8, 8, 8, 8, 8, 8, 8, 8, 8, 8, 8, 8, 8, 8, 8, 8, 8, 8, 8, 8, 8, 8, 8, 8, 8, 8, 8, 8, 8, 8, 8, 8, 8, 8, 8, 8, 8, 8, 8, 8, 8, 8, 8, 8, 8, 8, 8, 8, 8, 8, 8, 8, 8, 8, 8, 8, 8, 8, 8] (IntKind.u8.wrap t6_2)).bind fun v_25 =>
  some (((IntKind.i64.wrap (32 + (IntKind.i64.wrap v_25))), ()), ())
 else
 bif (decide (x_0 ≥ 65536)) then
  let t10_29 : Int := x_0.fdiv (2 ^ 16)
  let t12_30 : Int := IntKind.i64.wrap (0 + 16)
  bif (decide (t10_29 ≥ 256)) then
   (rdI [0, 1, 2, 2, 3, 3, 3, 3, 4, 4, 4, 4, 4, 4, 4, 4, 5, 5, 5, 5, 5, 5, 5, 5, 5, 5, 5, 5, 5, 5, 5, 5, 6, 6, 6, 6, 6, 6, 6, 6, 6, 6, 6, 6, 6, 6, 6, 6, 6, 6, 6, 6, 6, 6, 6, 6, 6, 6, 6, 6, 6, 6, 6, 6, 7, 7, 7, 7, 7, 7, 7, 7, 7, 7, 7, 7, 7, 7, 7, 7, 7, 7, 7, 7, 7, 7, 7, 7, 7, 7, 7, 7, 7, 7, 7, 7, 7, 7, 7, 7, 7, 7, 7, 7, 7, 7, 7, 7, 7, 7, 7, 7, 7, 7, 7, 7, 7, 7, 7, 7, 7, 7, 7, 7, 7, 7, 7, 7, 8, 8, 8, 8, 8, 8, 8, 8, 8, 8, 8, 8, 8, 8, 8, 8, 8, 8, 8, 8, 8, 8, 8, 8, 8, 8, 8, 8, 8, 8, 8, 8, 8, 8, 8, 8, 8, 8, 8, 8, 8, 8, 8, 8, 8, 8, 8, 8, 8, 8, 8, 8, 8, 8, 8, 8, 8, 8, 8, 8, 8, 8, 8, 8, 8, 8, 8, 8, 8, 8, 8, 8, 8, 8, 8, 8, 8, 8, 8, 8, 8, 8, 8, 8, 8, 8, 8, 8, 8, 8, 8, 8, 8, 8, 8, 8, 8, 8, 8, 8, 8, 8, 8, 8, 8, 8, 8, 8, 8, 8, 8, 8, 8, 8, 8, 8, 8, 8, 8, 8, 8, 8, 8, 8, 8, 8, 8, 8] (IntKind.u8.wrap (t10_29.fdiv (2 ^ 8)))).bind fun v_35 =>
   some (((IntKind.i64.wrap ((IntKind.i64.wrap (t12_30 + 8)) + (IntKind.i64.wrap v_35))), ()), ())
  else
  (rdI [0, 1, 2, 2, 3, 3, 3, 3, 4, 4, 4, 4, 4, 4, 4, 4, 5, 5, 5, 5, 5, 5, 5, 5, 5, 5, 5, 5, 5, 5, 5, 5, 6, 6, 6, 6, 6, 6, 6, 6, 6, 6, 6, 6, 6, 6, 6, 6, 6, 6, 6, 6, 6, 6, 6, 6, 6, 6, 6, 6, 6, 6, 6, 6, 7, 7, 7, 7, 7, 7, 7, 7, 7, 7, 7, 7, 7, 7, 7, 7, 7, 7, 7, 7, 7, 7, 7, 7, 7, 7, 7, 7, 7, 7, 7, 7, 7, 7, 7, 7, 7, 7, 7, 7, 7, 7, 7, 7, 7, 7, 7, 7, 7, 7, 7, 7, 7, 7, 7, 7, 7, 7, 7, 7, 7, 7, 7, 7, 8, 8, 8, 8, 8, 8, 8, 8, 8, 8, 8, 8, 8, 8, 8, 8, 8, 8, 8, 8, 8, 8, 8, 8, 8, 8, 8, 8, 8, 8, 8, 8, 8, 8, 8, 8, 8, 8, 8, 8, 8, 8, 8, 8, 8, 8, 8, 8, 8, 8, 8, 8, 8, 8, 8, 8, 8, 8, 8, 8, 8, 8, 8, 8, 8, 8, 8, 8, 8, 8, 8, 8, 8, 8, 8, 8, 8, 8, 8, 8, 8, 8, 8, 8, 8, 8, 8, 8, 8, 8, 8, 8, 8, 8, 8, 8, 8, 8, 8, 8, 8, 8, 8, 8, 8, 8, 8, 8, 8, 8, 8, 8, 8, 8, 8, 8, 8, 8, 8, 8, 8, 8, 8, 8, 8, 8, 8, 8] (IntKind.u8.wrap t10_29)).bind fun v_39 =>
  some (((IntKind.i64.wrap (t12_30 + (IntKind.i64.wrap v_39))), ()), ())
 else
 bif (decide (x_0 ≥ 256)) then
  (rdI [0, 1, 2, 2, 3, 3, 3, 3, 4, 4, 4, 4, 4, 4, 4, 4, 5, 5, 5, 5, 5, 5, 5, 5, 5, 5, 5, 5, 5, 5, 5, 5, 6, 6, 6, 6, 6, 6, 6, 6, 6, 6, 6, 6, 6, 6, 6, 6, 6, 6, 6, 6, 6, 6, 6, 6, 6, 6, 6, 6, 6, 6, 6, 6, 7, 7, 7, 7, 7, 7, 7, 7, 7, 7, 7, 7, 7, 7, 7, 7, 7, 7, 7, 7, 7, 7, 7, 7, 7, 7, 7, 7, 7, 7, 7, 7, 7, 7, 7, 7, 7, 7, 7, 7, 7, 7, 7, 7, 7, 7, 7, 7, 7, 7, 7, 7, 7, 7, 7, 7, 7, 7, 7, 7, 7, 7, 7, 7, 8, 8, 8, 8, 8, 8, 8, 8, 8, 8, 8, 8, 8, 8, 8, 8, 8, 8, 8, 8, 8, 8, 8, 8, 8, 8, 8, 8, 8, 8, 8, 8, 8, 8, 8, 8, 8, 8, 8, 8, 8, 8, 8, 8, 8, 8, 8, 8, 8, 8, 8, 8, 8, 8, 8, 8, 8, 8, 8, 8, 8, 8, 8, 8, 8, 8, 8, 8, 8, 8, 8, 8, 8, 8, 8, 8, 8, 8, 8, 8, 8, 8, 8, 8, 8, 8, 8, 8, 8, 8, 8, 8, 8, 8, 8, 8, 8, 8, 8, 8, 8, 8, 8, 8, 8, 8, 8, 8, 8, 8, 8, 8, 8, 8, 8, 8, 8, 8, 8, 8, 8, 8, 8, 8, 8, 8, 8, 8] (IntKind.u8.wrap (x_0.fdiv (2 ^ 8)))).bind fun v_46 =>
  some (((IntKind.i64.wrap ((IntKind.i64.wrap (0 + 8)) + (IntKind.i64.wrap v_46))), ()), ())
 else
 (rdI [0, 1, 2, 2, 3, 3, 3, 3, 4, 4, 4, 4, 4, 4, 4, 4, 5, 5, 5, 5, 5, 5, 5, 5, 5, 5, 5, 5, 5, 5, 5, 5, 6, 6, 6, 6, 6, 6, 6, 6, 6, 6, 6, 6, 6, 6, 6, 6, 6, 6, 6, 6, 6, 6, 6, 6, 6, 6, 6, 6, 6, 6, 6, 6, 7, 7, 7, 7, 7, 7, 7, 7, 7, 7, 7, 7, 7, 7, 7, 7, 7, 7, 7, 7, 7, 7, 7, 7, 7, 7, 7, 7, 7, 7, 7, 7, 7, 7, 7, 7, 7, 7, 7, 7, 7, 7, 7, 7, 7, 7, 7, 7, 7, 7, 7, 7, 7, 7, 7, 7, 7, 7, 7, 7, 7, 7, 7, 7, 8, 8, 8, 8, 8, 8, 8, 8, 8, 8, 8, 8, 8, 8, 8, 8, 8, 8, 8, 8, 8, 8, 8, 8, 8, 8, 8, 8, 8, 8, 8, 8, 8, 8, 8, 8, 8, 8, 8, 8, 8, 8, 8, 8, 8, 8, 8, 8, 8, 8, 8, 8, 8, 8, 8, 8, 8, 8, 8, 8, 8, 8, 8, 8, 8, 8, 8, 8, 8, 8, 8, 8, 8, 8, 8, 8, 8, 8, 8, 8, 8, 8, 8, 8, 8, 8, 8, 8, 8, 8, 8, 8, 8, 8, 8, 8, 8, 8, 8, 8, 8, 8, 8, 8, 8, 8, 8, 8, 8, 8, 8, 8, 8, 8, 8, 8, 8, 8, 8, 8, 8, 8, 8, 8, 8, 8, 8, 8] (IntKind.u8.wrap x_0)).bind fun v_50 =>
 some (((IntKind.i64.wrap (0 + (IntKind.i64.wrap v_50))), ()), ())

noncomputable def cmp_isNaN_int (x_0 : Int) : Option ((Bool × Unit) × (Unit)) :=
 some (((!decide (x_0 = x_0)), ()), ())

noncomputable def cmp_Compare_int (x_0 : Int) (y_1 : Int) : Option ((Int × Unit) × (Unit)) :=
 (cmp_isNaN_int x_0).bind fun r_1 =>
 (cmp_isNaN_int y_1).bind fun r_2 =>
 bif r_1.1.1 then
  bif r_2.1.1 then
   some ((0, ()), ())
  else
  some (((-1), ()), ())
 else
 bif r_2.1.1 then
  some ((1, ()), ())
 else
 bif (decide (x_0 < y_1)) then
  some (((-1), ()), ())
 else
 bif (decide (x_0 > y_1)) then
  some ((1, ()), ())
 else
 some ((0, ()), ())

noncomputable def cmp_Or_int_s0 (zero_3_0 : Int) (t6_6_0 : List Int) (t7_7_0 : Int) (t8_8_0 : Int) : Option (((Int × (List Int) × Int × Int × Unit) × (Unit)) ⊕ ((Int × Unit) × (Unit))) :=
 bif (decide (t8_8_0 < t7_7_0)) then
  (rdI t6_6_0 t8_8_0).bind fun v_3 =>
  bif (!decide (v_3 = zero_3_0)) then
   some (.inr ((v_3, ()), ()))
  else
  some (.inl ((zero_3_0, t6_6_0, t7_7_0, (IntKind.i64.wrap (t8_8_0 + 1)), ()), ()))
 else
 some (.inr ((zero_3_0, ()), ()))
noncomputable def cmp_Or_int (vals_0 : List Int) : Option ((Int × Unit) × (Unit)) :=
 loopR (fun (z : (Int × (List Int) × Int × Int × Unit) × (Unit)) => cmp_Or_int_s0 z.1.1 z.1.2.1 z.1.2.2.1 z.1.2.2.2.1) ((0, vals_0, (vals_0.length : Int), 0, ()), ())

end Go.L

namespace Go.L
open Go Go.Pv
set_option maxRecDepth 100000

noncomputable def ref01_Of_s0 (hi_0_0 : Int) (lo_1_0 : Int) (i_6_0 : Int) (p4_0_0 : List Bool) (p5_0_0 : List Bool) : Option (((Int × Int × Int × Unit) × ((List Bool) × (List Bool) × Unit)) ⊕ (((List Bool) × Unit) × (Unit))) :=
 bif (decide (i_6_0 < 64)) then
  (Option.map (fun _ => i_6_0) (ckI i_6_0 128)).bind fun v_4 =>
  (stI p5_0_0 v_4 (decide ((lo_1_0.tmod 2) = 1))).bind fun v_5 =>
  let t17_6 : Int := IntKind.i64.wrap (i_6_0 + 64)
  (Option.map (fun _ => t17_6) (ckI t17_6 128)).bind fun v_9 =>
  (stI v_5 v_9 (decide ((hi_0_0.tmod 2) = 1))).bind fun v_10 =>
  some (.inl (((IntKind.u64.wrap (hi_0_0.tdiv 2)), (IntKind.u64.wrap (lo_1_0.tdiv 2)), (IntKind.i64.wrap (i_6_0 + 1)), ()), p4_0_0, v_10, ()))
 else
 some (.inr ((p5_0_0, ()), ()))
noncomputable def ref01_Of (hi_0 : Int) (lo_1 : Int) : Option (((List Bool) × Unit) × (Unit)) :=
 loopR (fun (z : (Int × Int × Int × Unit) × ((List Bool) × (List Bool) × Unit)) => ref01_Of_s0 z.1.1 z.1.2.1 z.1.2.2.1 z.2.1 z.2.2.1) ((hi_0, lo_1, 0, ()), List.replicate 128 false, List.replicate 128 false, ())

noncomputable def word_Sub (a_0 : Int × Int × Unit) (b_1 : Int × Int × Unit) : Option (((Int × Int × Unit) × Bool × Unit) × (Unit)) :=
 (bits_Sub64 a_0.2.1 b_1.2.1 0).bind fun r_1 =>
 (bits_Sub64 a_0.1 b_1.1 r_1.1.2.1).bind fun r_2 =>
 some (((r_2.1.1, r_1.1.1, ()), (decide (r_2.1.2.1 > 0)), ()), ())

noncomputable def word_And (a_0 : Int × Int × Unit) (b_1 : Int × Int × Unit) : Option (((Int × Int × Unit) × Unit) × (Unit)) :=
 some ((((bitsI .and .u64 a_0.1 b_1.1), (bitsI .and .u64 a_0.2.1 b_1.2.1), ()), ()), ())

noncomputable def word_Not (a_0 : Int × Int × Unit) : Option (((Int × Int × Unit) × Unit) × (Unit)) :=
 some ((((bitsI .xor .u64 IntKind.u64.max a_0.1), (bitsI .xor .u64 IntKind.u64.max a_0.2.1), ()), ()), ())

noncomputable def word_Shl_g (word_Shl : (Int × Int × Unit) → Int → Option (((Int × Int × Unit) × Unit) × (Unit))) (word_Shr : (Int × Int × Unit) → Int → Option (((Int × Int × Unit) × Unit) × (Unit))) (a_0 : Int × Int × Unit) (n_1 : Int) : Option (((Int × Int × Unit) × Unit) × (Unit)) :=
 let t7_1 : Bool := decide (n_1 ≤ (-128))
 guardR (!t7_1) (some ()) () fun _ =>
 guardR (!t7_1) (some (decide (n_1 ≥ 128))) false fun v_2 =>
 bif (bif t7_1 then true else v_2) then
  some (((0, 0, ()), ()), ())
 else
 bif (decide (n_1 < 0)) then
  (word_Shr (a_0.1, a_0.2.1, ()) (IntKind.i64.wrap (0 - n_1))).bind fun r_6 =>
  some ((r_6.1.1, ()), ())
 else
 bif (decide (n_1 = 0)) then
  some (((a_0.1, a_0.2.1, ()), ()), ())
 else
 bif (decide (n_1 ≥ 64)) then
  (shlI .u64 a_0.2.1 (IntKind.i64.wrap (n_1 - 64))).bind fun v_10 =>
  some (((v_10, 0, ()), ()), ())
 else
 (shlI .u64 a_0.1 n_1).bind fun v_11 =>
 (shrI .u64 a_0.2.1 (IntKind.i64.wrap (64 - n_1))).bind fun v_13 =>
 (shlI .u64 a_0.2.1 n_1).bind fun v_15 =>
 some ((((bitsI .or .u64 v_11 v_13), v_15, ()), ()), ())
noncomputable def word_Shr_g (word_Shl : (Int × Int × Unit) → Int → Option (((Int × Int × Unit) × Unit) × (Unit))) (word_Shr : (Int × Int × Unit) → Int → Option (((Int × Int × Unit) × Unit) × (Unit))) (a_0 : Int × Int × Unit) (n_1 : Int) : Option (((Int × Int × Unit) × Unit) × (Unit)) :=
 let t7_1 : Bool := decide (n_1 ≤ (-128))
 guardR (!t7_1) (some ()) () fun _ =>
 guardR (!t7_1) (some (decide (n_1 ≥ 128))) false fun v_2 =>
 bif (bif t7_1 then true else v_2) then
  some (((0, 0, ()), ()), ())
 else
 bif (decide (n_1 < 0)) then
  (word_Shl (a_0.1, a_0.2.1, ()) (IntKind.i64.wrap (0 - n_1))).bind fun r_6 =>
  some ((r_6.1.1, ()), ())
 else
 bif (decide (n_1 = 0)) then
  some (((a_0.1, a_0.2.1, ()), ()), ())
 else
 bif (decide (n_1 ≥ 64)) then
  (shrI .u64 a_0.1 (IntKind.i64.wrap (n_1 - 64))).bind fun v_10 =>
  some (((0, v_10, ()), ()), ())
 else
 (shrI .u64 a_0.1 n_1).bind fun v_11 =>
 (shrI .u64 a_0.2.1 n_1).bind fun v_12 =>
 (shlI .u64 a_0.1 (IntKind.i64.wrap (64 - n_1))).bind fun v_14 =>
 some (((v_11, (bitsI .or .u64 v_12 v_14), ()), ()), ())
noncomputable def word_Shr_lv : Nat → ((Int × Int × Unit) → Int → Option (((Int × Int × Unit) × Unit) × (Unit))) × ((Int × Int × Unit) → Int → Option (((Int × Int × Unit) × Unit) × (Unit)))
 | 0 => (fun _ _ => none, fun _ _ => none)
 | k + 1 => (word_Shl_g ((word_Shr_lv k).1) ((word_Shr_lv k).2), word_Shr_g ((word_Shr_lv k).1) ((word_Shr_lv k).2))
noncomputable def word_Shl : (Int × Int × Unit) → Int → Option (((Int × Int × Unit) × Unit) × (Unit)) := (word_Shr_lv 3).1
noncomputable def word_Shr : (Int × Int × Unit) → Int → Option (((Int × Int × Unit) × Unit) × (Unit)) := (word_Shr_lv 3).2

noncomputable def word_Ones (n_0 : Int) : Option (((Int × Int × Unit) × Unit) × (Unit)) :=
 bif (decide (n_0 ≤ 0)) then
  some (((0, 0, ()), ()), ())
 else
 bif (decide (n_0 ≥ 128)) then
  (word_Not (0, 0, ())).bind fun r_3 =>
  some ((r_3.1.1, ()), ())
 else
 (word_Shl (0, 1, ()) n_0).bind fun r_4 =>
 (word_Sub r_4.1.1 (0, 1, ())).bind fun r_5 =>
 some ((r_5.1.1, ()), ())

noncomputable def word_Cmp (a_0 : Int × Int × Unit) (b_1 : Int × Int × Unit) : Option ((Int × Unit) × (Unit)) :=
 (word_Sub (a_0.1, a_0.2.1, ()) (b_1.1, b_1.2.1, ())).bind fun r_1 =>
 bif (decide (a_0.1 = b_1.1) && decide (a_0.2.1 = b_1.2.1)) then
  some ((0, ()), ())
 else
 bif r_1.1.2.1 then
  some (((-1), ()), ())
 else
 some ((1, ()), ())

noncomputable def word_Len (a_0 : Int × Int × Unit) : Option ((Int × Unit) × (Unit)) :=
 bif (decide (a_0.1 > 0)) then
  (bits_Len64 a_0.1).bind fun r_2 =>
  some (((IntKind.i64.wrap (64 + r_2.1.1)), ()), ())
 else
 (bits_Len64 a_0.2.1).bind fun r_4 =>
 some ((r_4.1.1, ()), ())

noncomputable def ref01_Len_s0 (i_3_0 : Int) (p1_0_0 : List Bool) : Option (((Int × Unit) × ((List Bool) × Unit)) ⊕ ((Int × Unit) × (Unit))) :=
 bif (decide (i_3_0 ≥ 0)) then
  (Option.map (fun _ => i_3_0) (ckI i_3_0 128)).bind fun v_2 =>
  (rdI p1_0_0 v_2).bind fun v_3 =>
  bif v_3 then
   some (.inr (((IntKind.i64.wrap (i_3_0 + 1)), ()), ()))
  else
  some (.inl (((IntKind.i64.wrap (i_3_0 - 1)), ()), p1_0_0, ()))
 else
 some (.inr ((0, ()), ()))
noncomputable def ref01_Len (a_0 : List Bool) : Option ((Int × Unit) × (Unit)) :=
 loopR (fun (z : (Int × Unit) × ((List Bool) × Unit)) => ref01_Len_s0 z.1.1 z.2.1) ((127, ()), a_0, ())

noncomputable def ref01_Halves_s0 (hi_4_0 : Int) (lo_5_0 : Int) (i_6_0 : Int) (p1_0_0 : List Bool) : Option (((Int × Int × Int × Unit) × ((List Bool) × Unit)) ⊕ ((Int × Int × Unit) × (Unit))) :=
 bif (decide (i_6_0 ≥ 0)) then
  let t12_2 : Int := IntKind.u64.wrap (2 * hi_4_0)
  let t14_3 : Int := IntKind.u64.wrap (2 * lo_5_0)
  let t16_4 : Int := IntKind.i64.wrap (i_6_0 + 64)
  (Option.map (fun _ => t16_4) (ckI t16_4 128)).bind fun v_5 =>
  (rdI p1_0_0 v_5).bind fun v_6 =>
  bif v_6 then
   let t20_7 : Int := IntKind.u64.wrap (t12_2 + 1)
   (Option.map (fun _ => i_6_0) (ckI i_6_0 128)).bind fun v_8 =>
   (rdI p1_0_0 v_8).bind fun v_9 =>
   bif v_9 then
    some (.inl ((t20_7, (IntKind.u64.wrap (t14_3 + 1)), (IntKind.i64.wrap (i_6_0 - 1)), ()), p1_0_0, ()))
   else
   some (.inl ((t20_7, t14_3, (IntKind.i64.wrap (i_6_0 - 1)), ()), p1_0_0, ()))
  else
  (Option.map (fun _ => i_6_0) (ckI i_6_0 128)).bind fun v_13 =>
  (rdI p1_0_0 v_13).bind fun v_14 =>
  bif v_14 then
   some (.inl ((t12_2, (IntKind.u64.wrap (t14_3 + 1)), (IntKind.i64.wrap (i_6_0 - 1)), ()), p1_0_0, ()))
  else
  some (.inl ((t12_2, t14_3, (IntKind.i64.wrap (i_6_0 - 1)), ()), p1_0_0, ()))
 else
 some (.inr ((hi_4_0, lo_5_0, ()), ()))
noncomputable def ref01_Halves (r_0 : List Bool) : Option ((Int × Int × Unit) × (Unit)) :=
 loopR (fun (z : (Int × Int × Int × Unit) × ((List Bool) × Unit)) => ref01_Halves_s0 z.1.1 z.1.2.1 z.1.2.2.1 z.2.1) ((0, 0, 63, ()), r_0, ())

end Go.L

namespace Go.L
open Go Go.Pv
set_option maxRecDepth 100000

noncomputable def vec_width (w_0 : Int) : Option ((Bool × Unit) × (Unit)) :=
 let t4_1 : Bool := decide (w_0 ≥ 1)
 guardR t4_1 (some ()) () fun _ =>
 guardR t4_1 (some (decide (w_0 ≤ 128))) false fun v_2 =>
 some (((bif t4_1 then v_2 else false), ()), ())

noncomputable def vec_Word (v_0 : Int × Int × Int × Unit) : Option (((Int × Int × Unit) × Unit) × (Unit)) :=
 some (((v_0.2.1, v_0.2.2.1, ()), ()), ())

noncomputable def vec_May (v_0 : Int × Int × Int × Unit) : Option ((Bool × Unit) × (Unit)) :=
 (vec_width v_0.1).bind fun r_1 =>
 guardR r_1.1.1 (some (v_0.1, v_0.2.1, v_0.2.2.1, ())) (0, 0, 0, ()) fun v_2 =>
 guardR r_1.1.1 (vec_Word v_2) (((0, 0, ()), ()), ()) fun r_3 =>
 guardR r_1.1.1 (word_Len r_3.1.1) ((0, ()), ()) fun r_4 =>
 guardR r_1.1.1 (some ()) () fun _ =>
 guardR r_1.1.1 (some v_0.1) 0 fun v_5 =>
 guardR r_1.1.1 (some (decide (r_4.1.1 ≤ v_5))) false fun v_6 =>
 some (((bif r_1.1.1 then v_6 else false), ()), ())

noncomputable def ref02_Bits_s0 (l_4_0 : List Bool) (i_5_0 : Int) (p1_0_0 : Int × Int × Int × Unit) (p3_0_0 : List Bool) : Option ((((List Bool) × Int × Unit) × ((Int × Int × Int × Unit) × (List Bool) × Unit)) ⊕ (((List Bool) × Unit) × (Unit))) :=
 let t14_2 : Bool := decide (i_5_0 < p1_0_0.1)
 guardR t14_2 (some ()) () fun _ =>
 guardR t14_2 (some (decide (i_5_0 < 128))) false fun v_3 =>
 bif (bif t14_2 then v_3 else false) then
  (Option.map (fun _ => i_5_0) (ckI i_5_0 128)).bind fun v_5 =>
  (rdI p3_0_0 v_5).bind fun v_6 =>
  (roomI 1 l_4_0 [v_6]).bind fun v_7 =>
  some (.inl ((v_7, (IntKind.i64.wrap (i_5_0 + 1)), ()), (p1_0_0.1, p1_0_0.2.1, p1_0_0.2.2.1, ()), p3_0_0, ()))
 else
 some (.inr ((l_4_0, ()), ()))
noncomputable def ref02_Bits (v_0 : Int × Int × Int × Unit) : Option (((List Bool) × Unit) × (Unit)) :=
 (ref01_Of v_0.2.1 v_0.2.2.1).bind fun r_1 =>
 loopR (fun (z : ((List Bool) × Int × Unit) × ((Int × Int × Int × Unit) × (List Bool) × Unit)) => ref02_Bits_s0 z.1.1 z.1.2.1 z.2.1 z.2.2.1) (([], 0, ()), (v_0.1, v_0.2.1, v_0.2.2.1, ()), r_1.1.1, ())

noncomputable def ref02_May (v_0 : Int × Int × Int × Unit) : Option ((Bool × Unit) × (Unit)) :=
 let t5_1 : Bool := decide (v_0.1 ≥ 1)
 guardR t5_1 (some ()) () fun _ =>
 guardR t5_1 (some v_0.1) 0 fun v_2 =>
 guardR t5_1 (some (decide (v_2 ≤ 128))) false fun v_3 =>
 let t10_4 : Bool := bif t5_1 then v_3 else false
 guardR t10_4 (some ()) () fun _ =>
 guardR t10_4 (some v_0.2.1) 0 fun v_5 =>
 guardR t10_4 (some ()) () fun _ =>
 guardR t10_4 (some v_0.2.2.1) 0 fun v_6 =>
 guardR t10_4 (ref01_Of v_5 v_6) ((List.replicate 128 false, ()), ()) fun r_7 =>
 guardR t10_4 (ref01_Len r_7.1.1) ((0, ()), ()) fun r_8 =>
 guardR t10_4 (some ()) () fun _ =>
 guardR t10_4 (some v_0.1) 0 fun v_9 =>
 guardR t10_4 (some (decide (r_8.1.1 ≤ v_9))) false fun v_10 =>
 some (((bif t10_4 then v_10 else false), ()), ())

noncomputable def vec_row (w_0 : Int) (x_1 : Int × Int × Unit) : Option (((Int × Int × Int × Unit) × Unit) × (Unit)) :=
 some (((w_0, x_1.1, x_1.2.1, ()), ()), ())

noncomputable def vec_Cut (w_0 : Int) (x_1 : Int × Int × Unit) : Option (((Int × Int × Int × Unit) × Int × Unit) × (Unit)) :=
 (vec_width w_0).bind fun r_1 =>
 bif !r_1.1.1 then
  some (((0, 0, 0, ()), 9, ()), ())
 else
 (word_Ones w_0).bind fun r_2 =>
 (word_And (x_1.1, x_1.2.1, ()) r_2.1.1).bind fun r_3 =>
 (vec_row w_0 r_3.1.1).bind fun r_4 =>
 some ((r_4.1.1, 0, ()), ())

noncomputable def vec_Slice (a_0 : Int × Int × Int × Unit) (hi_1 : Int) (lo_2 : Int) : Option (((Int × Int × Int × Unit) × Int × Unit) × (Unit)) :=
 (vec_May (a_0.1, a_0.2.1, a_0.2.2.1, ())).bind fun r_1 =>
 bif !r_1.1.1 then
  some (((0, 0, 0, ()), 1, ()), ())
 else
 let t15_2 : Bool := decide (lo_2 < 0)
 guardR (!t15_2) (some ()) () fun _ =>
 guardR (!t15_2) (some ()) () fun _ =>
 guardR (!t15_2) (some (decide (lo_2 > hi_1))) false fun v_3 =>
 let t20_4 : Bool := bif t15_2 then true else v_3
 guardR (!t20_4) (some ()) () fun _ =>
 guardR (!t20_4) (some ()) () fun _ =>
 guardR (!t20_4) (some a_0.1) 0 fun v_5 =>
 guardR (!t20_4) (some (decide (hi_1 ≥ v_5))) false fun v_6 =>
 bif (bif t20_4 then true else v_6) then
  some (((0, 0, 0, ()), 7, ()), ())
 else
 (vec_Word (a_0.1, a_0.2.1, a_0.2.2.1, ())).bind fun r_10 =>
 (word_Shr r_10.1.1 lo_2).bind fun r_11 =>
 (vec_Cut (IntKind.i64.wrap ((IntKind.i64.wrap (hi_1 - lo_2)) + 1)) r_11.1.1).bind fun r_12 =>
 some ((r_12.1.1, r_12.1.2.1, ()), ())

noncomputable def ref02_Of_s0 (l_0_0 : List Bool) (i_4_0 : Int) (p2_0_0 : Int × Int × Int × Unit) (p3_0_0 : List Bool) : Option ((((List Bool) × Int × Unit) × ((Int × Int × Int × Unit) × (List Bool) × Unit)) ⊕ (((Int × Int × Int × Unit) × Unit) × (Unit))) :=
 let t10_2 : Bool := decide (i_4_0 < (l_0_0.length : Int))
 guardR t10_2 (some ()) () fun _ =>
 guardR t10_2 (some (decide (i_4_0 < 128))) false fun v_3 =>
 bif (bif t10_2 then v_3 else false) then
  (rdI l_0_0 i_4_0).bind fun v_5 =>
  (Option.map (fun _ => i_4_0) (ckI i_4_0 128)).bind fun v_6 =>
  (stI p3_0_0 v_6 v_5).bind fun v_7 =>
  some (.inl ((l_0_0, (IntKind.i64.wrap (i_4_0 + 1)), ()), (p2_0_0.1, p2_0_0.2.1, p2_0_0.2.2.1, ()), v_7, ()))
 else
 ((ref01_Halves p3_0_0).bind fun r_9 =>
 some ((((l_0_0.length : Int), r_9.1.1, r_9.1.2.1, ()), ()), ())).map .inr
noncomputable def ref02_Of (l_0 : List Bool) : Option (((Int × Int × Int × Unit) × Unit) × (Unit)) :=
 loopR (fun (z : ((List Bool) × Int × Unit) × ((Int × Int × Int × Unit) × (List Bool) × Unit)) => ref02_Of_s0 z.1.1 z.1.2.1 z.2.1 z.2.2.1) ((l_0, 0, ()), (0, 0, 0, ()), List.replicate 128 false, ())

noncomputable def ref02_Slice (a_0 : Int × Int × Int × Unit) (hi_1 : Int) (lo_2 : Int) : Option (((Int × Int × Int × Unit) × Int × Unit) × (Unit)) :=
 (ref02_May (a_0.1, a_0.2.1, a_0.2.2.1, ())).bind fun r_1 =>
 bif !r_1.1.1 then
  some (((0, 0, 0, ()), 1, ()), ())
 else
 let t13_2 : Bool := decide (lo_2 < 0)
 guardR (!t13_2) (some ()) () fun _ =>
 guardR (!t13_2) (some ()) () fun _ =>
 guardR (!t13_2) (some (decide (lo_2 > hi_1))) false fun v_3 =>
 let t18_4 : Bool := bif t13_2 then true else v_3
 guardR (!t18_4) (some ()) () fun _ =>
 guardR (!t18_4) (some ()) () fun _ =>
 guardR (!t18_4) (some a_0.1) 0 fun v_5 =>
 guardR (!t18_4) (some (decide (hi_1 ≥ v_5))) false fun v_6 =>
 bif (bif t18_4 then true else v_6) then
  some (((0, 0, 0, ()), 7, ()), ())
 else
 (ref02_Bits (a_0.1, a_0.2.1, a_0.2.2.1, ())).bind fun r_8 =>
 (subL r_8.1.1 lo_2 (IntKind.i64.wrap (hi_1 + 1))).bind fun v_10 =>
 (ref02_Of v_10).bind fun r_11 =>
 some ((r_11.1.1, 0, ()), ())

noncomputable def vec_two_d65 (a_0 : Int × Int × Int × Unit) (b_1 : Int × Int × Int × Unit) : Option (((Int × Int × Int × Unit) × Int × Unit) × (Unit)) :=
 (vec_May (a_0.1, a_0.2.1, a_0.2.2.1, ())).bind fun r_1 =>
 guardR (!(!r_1.1.1)) (some (b_1.1, b_1.2.1, b_1.2.2.1, ())) (0, 0, 0, ()) fun v_2 =>
 guardR (!(!r_1.1.1)) (vec_May v_2) ((false, ()), ()) fun r_3 =>
 guardR (!(!r_1.1.1)) (some ()) () fun _ =>
 bif (bif !r_1.1.1 then true else !r_3.1.1) then
  some (((0, 0, 0, ()), 1, ()), ())
 else
 bif (!decide (a_0.1 = b_1.1)) then
  some (((0, 0, 0, ()), 9, ()), ())
 else
 (vec_Word (a_0.1, a_0.2.1, a_0.2.2.1, ())).bind fun r_6 =>
 (vec_Word (b_1.1, b_1.2.1, b_1.2.2.1, ())).bind fun r_7 =>
 (word_And r_6.1.1 r_7.1.1).bind fun r_8 =>
 (vec_Cut a_0.1 r_8.1.1).bind fun r_9 =>
 some ((r_9.1.1, r_9.1.2.1, ()), ())

noncomputable def vec_Less_1 (c_0 : Int) : Option ((Bool × Unit) × (Unit)) :=
 some (((decide (c_0 < 0)), ()), ())

noncomputable def vec_Truth (b_0 : Bool) : Option (((Int × Int × Int × Unit) × Unit) × (Unit)) :=
 bif b_0 then
  some (((1, 0, 1, ()), ()), ())
 else
 some (((1, 0, 0, ()), ()), ())

noncomputable def vec_told_44b (a_0 : Int × Int × Int × Unit) (b_1 : Int × Int × Int × Unit) : Option (((Int × Int × Int × Unit) × Int × Unit) × (Unit)) :=
 (vec_two_d65 (a_0.1, a_0.2.1, a_0.2.2.1, ()) (b_1.1, b_1.2.1, b_1.2.2.1, ())).bind fun r_1 =>
 bif (!decide (r_1.1.2.1 = 0)) then
  some (((0, 0, 0, ()), r_1.1.2.1, ()), ())
 else
 (vec_Word (a_0.1, a_0.2.1, a_0.2.2.1, ())).bind fun r_3 =>
 (vec_Word (b_1.1, b_1.2.1, b_1.2.2.1, ())).bind fun r_4 =>
 (word_Cmp r_3.1.1 r_4.1.1).bind fun r_5 =>
 (vec_Less_1 r_5.1.1).bind fun r_6 =>
 (vec_Truth r_6.1.1).bind fun r_7 =>
 some ((r_7.1.1, 0, ()), ())

noncomputable def vec_Less (a_0 : Int × Int × Int × Unit) (b_1 : Int × Int × Int × Unit) : Option (((Int × Int × Int × Unit) × Int × Unit) × (Unit)) :=
 (vec_told_44b (a_0.1, a_0.2.1, a_0.2.2.1, ()) (b_1.1, b_1.2.1, b_1.2.2.1, ())).bind fun r_1 =>
 some ((r_1.1.1, r_1.1.2.1, ()), ())

noncomputable def vec_Within (a_0 : Int × Int × Int × Unit) (lo_1 : Int × Int × Int × Unit) (hi_2 : Int × Int × Int × Unit) : Option ((Bool × Unit) × (Unit)) :=
 (vec_Less (a_0.1, a_0.2.1, a_0.2.2.1, ()) (lo_1.1, lo_1.2.1, lo_1.2.2.1, ())).bind fun r_1 =>
 (vec_Less (hi_2.1, hi_2.2.1, hi_2.2.2.1, ()) (a_0.1, a_0.2.1, a_0.2.2.1, ())).bind fun r_2 =>
 let t24_3 : Bool := decide (r_1.1.2.1 = 0)
 guardR t24_3 (some ()) () fun _ =>
 guardR t24_3 (some (decide (r_2.1.2.1 = 0))) false fun v_4 =>
 let t28_5 : Bool := bif t24_3 then v_4 else false
 guardR t28_5 (some ()) () fun _ =>
 guardR t28_5 (some r_1.1.1.2.2.1) 0 fun v_6 =>
 guardR t28_5 (some (decide (v_6 = 0))) false fun v_7 =>
 let t33_8 : Bool := bif t28_5 then v_7 else false
 guardR t33_8 (some ()) () fun _ =>
 guardR t33_8 (some r_2.1.1.2.2.1) 0 fun v_9 =>
 guardR t33_8 (some (decide (v_9 = 0))) false fun v_10 =>
 some (((bif t33_8 then v_10 else false), ()), ())

noncomputable def ref02_Two_s4 (op_0_4 : List Int) (less_10_4 : Bool) (out_13_4 : List Bool) (carry_14_4 : Bool) (i_20_4 : Int) (p6_0_4 : Int × Int × Int × Unit) : Option ((((List Int) × Bool × (List Bool) × Bool × Int × Unit) × ((Int × Int × Int × Unit) × Unit)) ⊕ (((Int × Int × Int × Unit) × Int × Unit) × (Unit))) :=
 bif (decide (i_20_4 < (out_13_4.length : Int))) then
  let t139_579 : Bool := decide (op_0_4 = [97, 100, 100, 115, 97, 116])
  guardR t139_579 (some ()) () fun _ =>
  bif (bif t139_579 then carry_14_4 else false) then
   (Option.map (fun _ => i_20_4) (ckI i_20_4 out_13_4.length)).bind fun v_581 =>
   (stI out_13_4 v_581 true).bind fun v_582 =>
   let t147_583 : Bool := decide (op_0_4 = [115, 117, 98, 115, 97, 116])
   guardR t147_583 (some ()) () fun _ =>
   bif (bif t147_583 then less_10_4 else false) then
    (Option.map (fun _ => i_20_4) (ckI i_20_4 v_582.length)).bind fun v_585 =>
    (stI v_582 v_585 false).bind fun v_586 =>
    some (.inl ((op_0_4, less_10_4, v_586, carry_14_4, (IntKind.i64.wrap (i_20_4 + 1)), ()), (p6_0_4.1, p6_0_4.2.1, p6_0_4.2.2.1, ()), ()))
   else
   some (.inl ((op_0_4, less_10_4, v_582, carry_14_4, (IntKind.i64.wrap (i_20_4 + 1)), ()), (p6_0_4.1, p6_0_4.2.1, p6_0_4.2.2.1, ()), ()))
  else
  let t147_589 : Bool := decide (op_0_4 = [115, 117, 98, 115, 97, 116])
  guardR t147_589 (some ()) () fun _ =>
  bif (bif t147_589 then less_10_4 else false) then
   (Option.map (fun _ => i_20_4) (ckI i_20_4 out_13_4.length)).bind fun v_591 =>
   (stI out_13_4 v_591 false).bind fun v_592 =>
   some (.inl ((op_0_4, less_10_4, v_592, carry_14_4, (IntKind.i64.wrap (i_20_4 + 1)), ()), (p6_0_4.1, p6_0_4.2.1, p6_0_4.2.2.1, ()), ()))
  else
  some (.inl ((op_0_4, less_10_4, out_13_4, carry_14_4, (IntKind.i64.wrap (i_20_4 + 1)), ()), (p6_0_4.1, p6_0_4.2.1, p6_0_4.2.2.1, ()), ()))
 else
 ((ref02_Of out_13_4).bind fun r_595 =>
 some ((r_595.1.1, 0, ()), ())).map .inr
noncomputable def ref02_Two_s2 (op_0_2 : List Int) (x_8_2 : List Bool) (y_9_2 : List Bool) (less_10_2 : Bool) (out_13_2 : List Bool) (carry_14_2 : Bool) (i_15_2 : Int) (p6_0_2 : Int × Int × Int × Unit) : Option ((((List Int) × (List Bool) × (List Bool) × Bool × (List Bool) × Bool × Int × Unit) × ((Int × Int × Int × Unit) × Unit)) ⊕ (((Int × Int × Int × Unit) × Int × Unit) × (Unit))) :=
 bif (decide (i_15_2 < (x_8_2.length : Int))) then
  (Option.map (fun _ => i_15_2) (ckI i_15_2 x_8_2.length)).bind fun v_28 =>
  (rdI x_8_2 v_28).bind fun v_29 =>
  (Option.map (fun _ => i_15_2) (ckI i_15_2 y_9_2.length)).bind fun v_30 =>
  (rdI y_9_2 v_30).bind fun v_31 =>
  let t90_32 : Bool := decide (op_0_2 = [115, 117, 98])
  guardR (!t90_32) (some ()) () fun _ =>
  guardR (!t90_32) (some (decide (op_0_2 = [115, 117, 98, 115, 97, 116]))) false fun v_33 =>
  bif (bif t90_32 then true else v_33) then
   bif v_29 then
    let t99_35 : Int := IntKind.i64.wrap (0 + 1)
    bif !v_31 then
     let t102_36 : Int := IntKind.i64.wrap (t99_35 + 1)
     bif carry_14_2 then
      let t105_37 : Int := IntKind.i64.wrap (t102_36 + 1)
      let t110_40 : Bool := decide (t105_37 ≥ 2)
      bif (decide (op_0_2 = [97, 110, 100])) then
       guardR v_29 (some ()) () fun _ =>
       bif (decide (op_0_2 = [111, 114])) then
        guardR (!v_29) (some ()) () fun _ =>
        bif (decide (op_0_2 = [120, 111, 114])) then
         (roomI 1 out_13_2 [(!(decide (v_29 = (!v_31))))]).bind fun v_47 =>
         some (.inl ((op_0_2, x_8_2, y_9_2, less_10_2, v_47, t110_40, (IntKind.i64.wrap (i_15_2 + 1)), ()), (p6_0_2.1, p6_0_2.2.1, p6_0_2.2.2.1, ()), ()))
        else
        (roomI 1 out_13_2 [(bif v_29 then true else !v_31)]).bind fun v_49 =>
        some (.inl ((op_0_2, x_8_2, y_9_2, less_10_2, v_49, t110_40, (IntKind.i64.wrap (i_15_2 + 1)), ()), (p6_0_2.1, p6_0_2.2.1, p6_0_2.2.2.1, ()), ()))
       else
       bif (decide (op_0_2 = [120, 111, 114])) then
        (roomI 1 out_13_2 [(!(decide (v_29 = (!v_31))))]).bind fun v_53 =>
        some (.inl ((op_0_2, x_8_2, y_9_2, less_10_2, v_53, t110_40, (IntKind.i64.wrap (i_15_2 + 1)), ()), (p6_0_2.1, p6_0_2.2.1, p6_0_2.2.2.1, ()), ()))
       else
       (roomI 1 out_13_2 [(bif v_29 then !v_31 else false)]).bind fun v_55 =>
       some (.inl ((op_0_2, x_8_2, y_9_2, less_10_2, v_55, t110_40, (IntKind.i64.wrap (i_15_2 + 1)), ()), (p6_0_2.1, p6_0_2.2.1, p6_0_2.2.2.1, ()), ()))
      else
      bif (decide (op_0_2 = [111, 114])) then
       guardR (!v_29) (some ()) () fun _ =>
       bif (decide (op_0_2 = [120, 111, 114])) then
        (roomI 1 out_13_2 [(!(decide (v_29 = (!v_31))))]).bind fun v_61 =>
        some (.inl ((op_0_2, x_8_2, y_9_2, less_10_2, v_61, t110_40, (IntKind.i64.wrap (i_15_2 + 1)), ()), (p6_0_2.1, p6_0_2.2.1, p6_0_2.2.2.1, ()), ()))
       else
       (roomI 1 out_13_2 [(bif v_29 then true else !v_31)]).bind fun v_63 =>
       some (.inl ((op_0_2, x_8_2, y_9_2, less_10_2, v_63, t110_40, (IntKind.i64.wrap (i_15_2 + 1)), ()), (p6_0_2.1, p6_0_2.2.1, p6_0_2.2.2.1, ()), ()))
      else
      bif (decide (op_0_2 = [120, 111, 114])) then
       (roomI 1 out_13_2 [(!(decide (v_29 = (!v_31))))]).bind fun v_67 =>
       some (.inl ((op_0_2, x_8_2, y_9_2, less_10_2, v_67, t110_40, (IntKind.i64.wrap (i_15_2 + 1)), ()), (p6_0_2.1, p6_0_2.2.1, p6_0_2.2.2.1, ()), ()))
      else
      (roomI 1 out_13_2 [(decide ((t105_37.tmod 2) = 1))]).bind fun v_69 =>
      some (.inl ((op_0_2, x_8_2, y_9_2, less_10_2, v_69, t110_40, (IntKind.i64.wrap (i_15_2 + 1)), ()), (p6_0_2.1, p6_0_2.2.1, p6_0_2.2.2.1, ()), ()))
     else
     let t110_73 : Bool := decide (t102_36 ≥ 2)
     bif (decide (op_0_2 = [97, 110, 100])) then
      guardR v_29 (some ()) () fun _ =>
      bif (decide (op_0_2 = [111, 114])) then
       guardR (!v_29) (some ()) () fun _ =>
       bif (decide (op_0_2 = [120, 111, 114])) then
        (roomI 1 out_13_2 [(!(decide (v_29 = (!v_31))))]).bind fun v_80 =>
        some (.inl ((op_0_2, x_8_2, y_9_2, less_10_2, v_80, t110_73, (IntKind.i64.wrap (i_15_2 + 1)), ()), (p6_0_2.1, p6_0_2.2.1, p6_0_2.2.2.1, ()), ()))
       else
       (roomI 1 out_13_2 [(bif v_29 then true else !v_31)]).bind fun v_82 =>
       some (.inl ((op_0_2, x_8_2, y_9_2, less_10_2, v_82, t110_73, (IntKind.i64.wrap (i_15_2 + 1)), ()), (p6_0_2.1, p6_0_2.2.1, p6_0_2.2.2.1, ()), ()))
      else
      bif (decide (op_0_2 = [120, 111, 114])) then
       (roomI 1 out_13_2 [(!(decide (v_29 = (!v_31))))]).bind fun v_86 =>
       some (.inl ((op_0_2, x_8_2, y_9_2, less_10_2, v_86, t110_73, (IntKind.i64.wrap (i_15_2 + 1)), ()), (p6_0_2.1, p6_0_2.2.1, p6_0_2.2.2.1, ()), ()))
      else
      (roomI 1 out_13_2 [(bif v_29 then !v_31 else false)]).bind fun v_88 =>
      some (.inl ((op_0_2, x_8_2, y_9_2, less_10_2, v_88, t110_73, (IntKind.i64.wrap (i_15_2 + 1)), ()), (p6_0_2.1, p6_0_2.2.1, p6_0_2.2.2.1, ()), ()))
     else
     bif (decide (op_0_2 = [111, 114])) then
      guardR (!v_29) (some ()) () fun _ =>
      bif (decide (op_0_2 = [120, 111, 114])) then
       (roomI 1 out_13_2 [(!(decide (v_29 = (!v_31))))]).bind fun v_94 =>
       some (.inl ((op_0_2, x_8_2, y_9_2, less_10_2, v_94, t110_73, (IntKind.i64.wrap (i_15_2 + 1)), ()), (p6_0_2.1, p6_0_2.2.1, p6_0_2.2.2.1, ()), ()))
      else
      (roomI 1 out_13_2 [(bif v_29 then true else !v_31)]).bind fun v_96 =>
      some (.inl ((op_0_2, x_8_2, y_9_2, less_10_2, v_96, t110_73, (IntKind.i64.wrap (i_15_2 + 1)), ()), (p6_0_2.1, p6_0_2.2.1, p6_0_2.2.2.1, ()), ()))
     else
     bif (decide (op_0_2 = [120, 111, 114])) then
      (roomI 1 out_13_2 [(!(decide (v_29 = (!v_31))))]).bind fun v_100 =>
      some (.inl ((op_0_2, x_8_2, y_9_2, less_10_2, v_100, t110_73, (IntKind.i64.wrap (i_15_2 + 1)), ()), (p6_0_2.1, p6_0_2.2.1, p6_0_2.2.2.1, ()), ()))
     else
     (roomI 1 out_13_2 [(decide ((t102_36.tmod 2) = 1))]).bind fun v_102 =>
     some (.inl ((op_0_2, x_8_2, y_9_2, less_10_2, v_102, t110_73, (IntKind.i64.wrap (i_15_2 + 1)), ()), (p6_0_2.1, p6_0_2.2.1, p6_0_2.2.2.1, ()), ()))
    else
    bif carry_14_2 then
     let t105_104 : Int := IntKind.i64.wrap (t99_35 + 1)
     let t110_107 : Bool := decide (t105_104 ≥ 2)
     bif (decide (op_0_2 = [97, 110, 100])) then
      guardR v_29 (some ()) () fun _ =>
      bif (decide (op_0_2 = [111, 114])) then
       guardR (!v_29) (some ()) () fun _ =>
       bif (decide (op_0_2 = [120, 111, 114])) then
        (roomI 1 out_13_2 [(!(decide (v_29 = (!v_31))))]).bind fun v_114 =>
        some (.inl ((op_0_2, x_8_2, y_9_2, less_10_2, v_114, t110_107, (IntKind.i64.wrap (i_15_2 + 1)), ()), (p6_0_2.1, p6_0_2.2.1, p6_0_2.2.2.1, ()), ()))
       else
       (roomI 1 out_13_2 [(bif v_29 then true else !v_31)]).bind fun v_116 =>
       some (.inl ((op_0_2, x_8_2, y_9_2, less_10_2, v_116, t110_107, (IntKind.i64.wrap (i_15_2 + 1)), ()), (p6_0_2.1, p6_0_2.2.1, p6_0_2.2.2.1, ()), ()))
      else
      bif (decide (op_0_2 = [120, 111, 114])) then
       (roomI 1 out_13_2 [(!(decide (v_29 = (!v_31))))]).bind fun v_120 =>
       some (.inl ((op_0_2, x_8_2, y_9_2, less_10_2, v_120, t110_107, (IntKind.i64.wrap (i_15_2 + 1)), ()), (p6_0_2.1, p6_0_2.2.1, p6_0_2.2.2.1, ()), ()))
      else
      (roomI 1 out_13_2 [(bif v_29 then !v_31 else false)]).bind fun v_122 =>
      some (.inl ((op_0_2, x_8_2, y_9_2, less_10_2, v_122, t110_107, (IntKind.i64.wrap (i_15_2 + 1)), ()), (p6_0_2.1, p6_0_2.2.1, p6_0_2.2.2.1, ()), ()))
     else
     bif (decide (op_0_2 = [111, 114])) then
      guardR (!v_29) (some ()) () fun _ =>
      bif (decide (op_0_2 = [120, 111, 114])) then
       (roomI 1 out_13_2 [(!(decide (v_29 = (!v_31))))]).bind fun v_128 =>
       some (.inl ((op_0_2, x_8_2, y_9_2, less_10_2, v_128, t110_107, (IntKind.i64.wrap (i_15_2 + 1)), ()), (p6_0_2.1, p6_0_2.2.1, p6_0_2.2.2.1, ()), ()))
      else
      (roomI 1 out_13_2 [(bif v_29 then true else !v_31)]).bind fun v_130 =>
      some (.inl ((op_0_2, x_8_2, y_9_2, less_10_2, v_130, t110_107, (IntKind.i64.wrap (i_15_2 + 1)), ()), (p6_0_2.1, p6_0_2.2.1, p6_0_2.2.2.1, ()), ()))
     else
     bif (decide (op_0_2 = [120, 111, 114])) then
      (roomI 1 out_13_2 [(!(decide (v_29 = (!v_31))))]).bind fun v_134 =>
      some (.inl ((op_0_2, x_8_2, y_9_2, less_10_2, v_134, t110_107, (IntKind.i64.wrap (i_15_2 + 1)), ()), (p6_0_2.1, p6_0_2.2.1, p6_0_2.2.2.1, ()), ()))
     else
     (roomI 1 out_13_2 [(decide ((t105_104.tmod 2) = 1))]).bind fun v_136 =>
     some (.inl ((op_0_2, x_8_2, y_9_2, less_10_2, v_136, t110_107, (IntKind.i64.wrap (i_15_2 + 1)), ()), (p6_0_2.1, p6_0_2.2.1, p6_0_2.2.2.1, ()), ()))
    else
    let t110_140 : Bool := decide (t99_35 ≥ 2)
    bif (decide (op_0_2 = [97, 110, 100])) then
     guardR v_29 (some ()) () fun _ =>
     bif (decide (op_0_2 = [111, 114])) then
      guardR (!v_29) (some ()) () fun _ =>
      bif (decide (op_0_2 = [120, 111, 114])) then
       (roomI 1 out_13_2 [(!(decide (v_29 = (!v_31))))]).bind fun v_147 =>
       some (.inl ((op_0_2, x_8_2, y_9_2, less_10_2, v_147, t110_140, (IntKind.i64.wrap (i_15_2 + 1)), ()), (p6_0_2.1, p6_0_2.2.1, p6_0_2.2.2.1, ()), ()))
      else
      (roomI 1 out_13_2 [(bif v_29 then true else !v_31)]).bind fun v_149 =>
      some (.inl ((op_0_2, x_8_2, y_9_2, less_10_2, v_149, t110_140, (IntKind.i64.wrap (i_15_2 + 1)), ()), (p6_0_2.1, p6_0_2.2.1, p6_0_2.2.2.1, ()), ()))
     else
     bif (decide (op_0_2 = [120, 111, 114])) then
      (roomI 1 out_13_2 [(!(decide (v_29 = (!v_31))))]).bind fun v_153 =>
      some (.inl ((op_0_2, x_8_2, y_9_2, less_10_2, v_153, t110_140, (IntKind.i64.wrap (i_15_2 + 1)), ()), (p6_0_2.1, p6_0_2.2.1, p6_0_2.2.2.1, ()), ()))
     else
     (roomI 1 out_13_2 [(bif v_29 then !v_31 else false)]).bind fun v_155 =>
     some (.inl ((op_0_2, x_8_2, y_9_2, less_10_2, v_155, t110_140, (IntKind.i64.wrap (i_15_2 + 1)), ()), (p6_0_2.1, p6_0_2.2.1, p6_0_2.2.2.1, ()), ()))
    else
    bif (decide (op_0_2 = [111, 114])) then
     guardR (!v_29) (some ()) () fun _ =>
     bif (decide (op_0_2 = [120, 111, 114])) then
      (roomI 1 out_13_2 [(!(decide (v_29 = (!v_31))))]).bind fun v_161 =>
      some (.inl ((op_0_2, x_8_2, y_9_2, less_10_2, v_161, t110_140, (IntKind.i64.wrap (i_15_2 + 1)), ()), (p6_0_2.1, p6_0_2.2.1, p6_0_2.2.2.1, ()), ()))
     else
     (roomI 1 out_13_2 [(bif v_29 then true else !v_31)]).bind fun v_163 =>
     some (.inl ((op_0_2, x_8_2, y_9_2, less_10_2, v_163, t110_140, (IntKind.i64.wrap (i_15_2 + 1)), ()), (p6_0_2.1, p6_0_2.2.1, p6_0_2.2.2.1, ()), ()))
    else
    bif (decide (op_0_2 = [120, 111, 114])) then
     (roomI 1 out_13_2 [(!(decide (v_29 = (!v_31))))]).bind fun v_167 =>
     some (.inl ((op_0_2, x_8_2, y_9_2, less_10_2, v_167, t110_140, (IntKind.i64.wrap (i_15_2 + 1)), ()), (p6_0_2.1, p6_0_2.2.1, p6_0_2.2.2.1, ()), ()))
    else
    (roomI 1 out_13_2 [(decide ((t99_35.tmod 2) = 1))]).bind fun v_169 =>
    some (.inl ((op_0_2, x_8_2, y_9_2, less_10_2, v_169, t110_140, (IntKind.i64.wrap (i_15_2 + 1)), ()), (p6_0_2.1, p6_0_2.2.1, p6_0_2.2.2.1, ()), ()))
   else
   bif !v_31 then
    let t102_171 : Int := IntKind.i64.wrap (0 + 1)
    bif carry_14_2 then
     let t105_172 : Int := IntKind.i64.wrap (t102_171 + 1)
     let t110_175 : Bool := decide (t105_172 ≥ 2)
     bif (decide (op_0_2 = [97, 110, 100])) then
      guardR v_29 (some ()) () fun _ =>
      bif (decide (op_0_2 = [111, 114])) then
       guardR (!v_29) (some ()) () fun _ =>
       bif (decide (op_0_2 = [120, 111, 114])) then
        (roomI 1 out_13_2 [(!(decide (v_29 = (!v_31))))]).bind fun v_182 =>
        some (.inl ((op_0_2, x_8_2, y_9_2, less_10_2, v_182, t110_175, (IntKind.i64.wrap (i_15_2 + 1)), ()), (p6_0_2.1, p6_0_2.2.1, p6_0_2.2.2.1, ()), ()))
       else
       (roomI 1 out_13_2 [(bif v_29 then true else !v_31)]).bind fun v_184 =>
       some (.inl ((op_0_2, x_8_2, y_9_2, less_10_2, v_184, t110_175, (IntKind.i64.wrap (i_15_2 + 1)), ()), (p6_0_2.1, p6_0_2.2.1, p6_0_2.2.2.1, ()), ()))
      else
      bif (decide (op_0_2 = [120, 111, 114])) then
       (roomI 1 out_13_2 [(!(decide (v_29 = (!v_31))))]).bind fun v_188 =>
       some (.inl ((op_0_2, x_8_2, y_9_2, less_10_2, v_188, t110_175, (IntKind.i64.wrap (i_15_2 + 1)), ()), (p6_0_2.1, p6_0_2.2.1, p6_0_2.2.2.1, ()), ()))
      else
      (roomI 1 out_13_2 [(bif v_29 then !v_31 else false)]).bind fun v_190 =>
      some (.inl ((op_0_2, x_8_2, y_9_2, less_10_2, v_190, t110_175, (IntKind.i64.wrap (i_15_2 + 1)), ()), (p6_0_2.1, p6_0_2.2.1, p6_0_2.2.2.1, ()), ()))
     else
     bif (decide (op_0_2 = [111, 114])) then
      guardR (!v_29) (some ()) () fun _ =>
      bif (decide (op_0_2 = [120, 111, 114])) then
       (roomI 1 out_13_2 [(!(decide (v_29 = (!v_31))))]).bind fun v_196 =>
       some (.inl ((op_0_2, x_8_2, y_9_2, less_10_2, v_196, t110_175, (IntKind.i64.wrap (i_15_2 + 1)), ()), (p6_0_2.1, p6_0_2.2.1, p6_0_2.2.2.1, ()), ()))
      else
      (roomI 1 out_13_2 [(bif v_29 then true else !v_31)]).bind fun v_198 =>
      some (.inl ((op_0_2, x_8_2, y_9_2, less_10_2, v_198, t110_175, (IntKind.i64.wrap (i_15_2 + 1)), ()), (p6_0_2.1, p6_0_2.2.1, p6_0_2.2.2.1, ()), ()))
     else
     bif (decide (op_0_2 = [120, 111, 114])) then
      (roomI 1 out_13_2 [(!(decide (v_29 = (!v_31))))]).bind fun v_202 =>
      some (.inl ((op_0_2, x_8_2, y_9_2, less_10_2, v_202, t110_175, (IntKind.i64.wrap (i_15_2 + 1)), ()), (p6_0_2.1, p6_0_2.2.1, p6_0_2.2.2.1, ()), ()))
     else
     (roomI 1 out_13_2 [(decide ((t105_172.tmod 2) = 1))]).bind fun v_204 =>
     some (.inl ((op_0_2, x_8_2, y_9_2, less_10_2, v_204, t110_175, (IntKind.i64.wrap (i_15_2 + 1)), ()), (p6_0_2.1, p6_0_2.2.1, p6_0_2.2.2.1, ()), ()))
    else
    let t110_208 : Bool := decide (t102_171 ≥ 2)
    bif (decide (op_0_2 = [97, 110, 100])) then
     guardR v_29 (some ()) () fun _ =>
     bif (decide (op_0_2 = [111, 114])) then
      guardR (!v_29) (some ()) () fun _ =>
      bif (decide (op_0_2 = [120, 111, 114])) then
       (roomI 1 out_13_2 [(!(decide (v_29 = (!v_31))))]).bind fun v_215 =>
       some (.inl ((op_0_2, x_8_2, y_9_2, less_10_2, v_215, t110_208, (IntKind.i64.wrap (i_15_2 + 1)), ()), (p6_0_2.1, p6_0_2.2.1, p6_0_2.2.2.1, ()), ()))
      else
      (roomI 1 out_13_2 [(bif v_29 then true else !v_31)]).bind fun v_217 =>
      some (.inl ((op_0_2, x_8_2, y_9_2, less_10_2, v_217, t110_208, (IntKind.i64.wrap (i_15_2 + 1)), ()), (p6_0_2.1, p6_0_2.2.1, p6_0_2.2.2.1, ()), ()))
     else
     bif (decide (op_0_2 = [120, 111, 114])) then
      (roomI 1 out_13_2 [(!(decide (v_29 = (!v_31))))]).bind fun v_221 =>
      some (.inl ((op_0_2, x_8_2, y_9_2, less_10_2, v_221, t110_208, (IntKind.i64.wrap (i_15_2 + 1)), ()), (p6_0_2.1, p6_0_2.2.1, p6_0_2.2.2.1, ()), ()))
     else
     (roomI 1 out_13_2 [(bif v_29 then !v_31 else false)]).bind fun v_223 =>
     some (.inl ((op_0_2, x_8_2, y_9_2, less_10_2, v_223, t110_208, (IntKind.i64.wrap (i_15_2 + 1)), ()), (p6_0_2.1, p6_0_2.2.1, p6_0_2.2.2.1, ()), ()))
    else
    bif (decide (op_0_2 = [111, 114])) then
     guardR (!v_29) (some ()) () fun _ =>
     bif (decide (op_0_2 = [120, 111, 114])) then
      (roomI 1 out_13_2 [(!(decide (v_29 = (!v_31))))]).bind fun v_229 =>
      some (.inl ((op_0_2, x_8_2, y_9_2, less_10_2, v_229, t110_208, (IntKind.i64.wrap (i_15_2 + 1)), ()), (p6_0_2.1, p6_0_2.2.1, p6_0_2.2.2.1, ()), ()))
     else
     (roomI 1 out_13_2 [(bif v_29 then true else !v_31)]).bind fun v_231 =>
     some (.inl ((op_0_2, x_8_2, y_9_2, less_10_2, v_231, t110_208, (IntKind.i64.wrap (i_15_2 + 1)), ()), (p6_0_2.1, p6_0_2.2.1, p6_0_2.2.2.1, ()), ()))
    else
    bif (decide (op_0_2 = [120, 111, 114])) then
     (roomI 1 out_13_2 [(!(decide (v_29 = (!v_31))))]).bind fun v_235 =>
     some (.inl ((op_0_2, x_8_2, y_9_2, less_10_2, v_235, t110_208, (IntKind.i64.wrap (i_15_2 + 1)), ()), (p6_0_2.1, p6_0_2.2.1, p6_0_2.2.2.1, ()), ()))
    else
    (roomI 1 out_13_2 [(decide ((t102_171.tmod 2) = 1))]).bind fun v_237 =>
    some (.inl ((op_0_2, x_8_2, y_9_2, less_10_2, v_237, t110_208, (IntKind.i64.wrap (i_15_2 + 1)), ()), (p6_0_2.1, p6_0_2.2.1, p6_0_2.2.2.1, ()), ()))
   else
   bif carry_14_2 then
    let t105_239 : Int := IntKind.i64.wrap (0 + 1)
    let t110_242 : Bool := decide (t105_239 ≥ 2)
    bif (decide (op_0_2 = [97, 110, 100])) then
     guardR v_29 (some ()) () fun _ =>
     bif (decide (op_0_2 = [111, 114])) then
      guardR (!v_29) (some ()) () fun _ =>
      bif (decide (op_0_2 = [120, 111, 114])) then
       (roomI 1 out_13_2 [(!(decide (v_29 = (!v_31))))]).bind fun v_249 =>
       some (.inl ((op_0_2, x_8_2, y_9_2, less_10_2, v_249, t110_242, (IntKind.i64.wrap (i_15_2 + 1)), ()), (p6_0_2.1, p6_0_2.2.1, p6_0_2.2.2.1, ()), ()))
      else
      (roomI 1 out_13_2 [(bif v_29 then true else !v_31)]).bind fun v_251 =>
      some (.inl ((op_0_2, x_8_2, y_9_2, less_10_2, v_251, t110_242, (IntKind.i64.wrap (i_15_2 + 1)), ()), (p6_0_2.1, p6_0_2.2.1, p6_0_2.2.2.1, ()), ()))
     else
     bif (decide (op_0_2 = [120, 111, 114])) then
      (roomI 1 out_13_2 [(!(decide (v_29 = (!v_31))))]).bind fun v_255 =>
      some (.inl ((op_0_2, x_8_2, y_9_2, less_10_2, v_255, t110_242, (IntKind.i64.wrap (i_15_2 + 1)), ()), (p6_0_2.1, p6_0_2.2.1, p6_0_2.2.2.1, ()), ()))
     else
     (roomI 1 out_13_2 [(bif v_29 then !v_31 else false)]).bind fun v_257 =>
     some (.inl ((op_0_2, x_8_2, y_9_2, less_10_2, v_257, t110_242, (IntKind.i64.wrap (i_15_2 + 1)), ()), (p6_0_2.1, p6_0_2.2.1, p6_0_2.2.2.1, ()), ()))
    else
    bif (decide (op_0_2 = [111, 114])) then
     guardR (!v_29) (some ()) () fun _ =>
     bif (decide (op_0_2 = [120, 111, 114])) then
      (roomI 1 out_13_2 [(!(decide (v_29 = (!v_31))))]).bind fun v_263 =>
      some (.inl ((op_0_2, x_8_2, y_9_2, less_10_2, v_263, t110_242, (IntKind.i64.wrap (i_15_2 + 1)), ()), (p6_0_2.1, p6_0_2.2.1, p6_0_2.2.2.1, ()), ()))
     else
     (roomI 1 out_13_2 [(bif v_29 then true else !v_31)]).bind fun v_265 =>
     some (.inl ((op_0_2, x_8_2, y_9_2, less_10_2, v_265, t110_242, (IntKind.i64.wrap (i_15_2 + 1)), ()), (p6_0_2.1, p6_0_2.2.1, p6_0_2.2.2.1, ()), ()))
    else
    bif (decide (op_0_2 = [120, 111, 114])) then
     (roomI 1 out_13_2 [(!(decide (v_29 = (!v_31))))]).bind fun v_269 =>
     some (.inl ((op_0_2, x_8_2, y_9_2, less_10_2, v_269, t110_242, (IntKind.i64.wrap (i_15_2 + 1)), ()), (p6_0_2.1, p6_0_2.2.1, p6_0_2.2.2.1, ()), ()))
    else
    (roomI 1 out_13_2 [(decide ((t105_239.tmod 2) = 1))]).bind fun v_271 =>
    some (.inl ((op_0_2, x_8_2, y_9_2, less_10_2, v_271, t110_242, (IntKind.i64.wrap (i_15_2 + 1)), ()), (p6_0_2.1, p6_0_2.2.1, p6_0_2.2.2.1, ()), ()))
   else
   let t110_275 : Bool := decide ((0 : Int) ≥ 2)
   bif (decide (op_0_2 = [97, 110, 100])) then
    guardR v_29 (some ()) () fun _ =>
    bif (decide (op_0_2 = [111, 114])) then
     guardR (!v_29) (some ()) () fun _ =>
     bif (decide (op_0_2 = [120, 111, 114])) then
      (roomI 1 out_13_2 [(!(decide (v_29 = (!v_31))))]).bind fun v_282 =>
      some (.inl ((op_0_2, x_8_2, y_9_2, less_10_2, v_282, t110_275, (IntKind.i64.wrap (i_15_2 + 1)), ()), (p6_0_2.1, p6_0_2.2.1, p6_0_2.2.2.1, ()), ()))
     else
     (roomI 1 out_13_2 [(bif v_29 then true else !v_31)]).bind fun v_284 =>
     some (.inl ((op_0_2, x_8_2, y_9_2, less_10_2, v_284, t110_275, (IntKind.i64.wrap (i_15_2 + 1)), ()), (p6_0_2.1, p6_0_2.2.1, p6_0_2.2.2.1, ()), ()))
    else
    bif (decide (op_0_2 = [120, 111, 114])) then
     (roomI 1 out_13_2 [(!(decide (v_29 = (!v_31))))]).bind fun v_288 =>
     some (.inl ((op_0_2, x_8_2, y_9_2, less_10_2, v_288, t110_275, (IntKind.i64.wrap (i_15_2 + 1)), ()), (p6_0_2.1, p6_0_2.2.1, p6_0_2.2.2.1, ()), ()))
    else
    (roomI 1 out_13_2 [(bif v_29 then !v_31 else false)]).bind fun v_290 =>
    some (.inl ((op_0_2, x_8_2, y_9_2, less_10_2, v_290, t110_275, (IntKind.i64.wrap (i_15_2 + 1)), ()), (p6_0_2.1, p6_0_2.2.1, p6_0_2.2.2.1, ()), ()))
   else
   bif (decide (op_0_2 = [111, 114])) then
    guardR (!v_29) (some ()) () fun _ =>
    bif (decide (op_0_2 = [120, 111, 114])) then
     (roomI 1 out_13_2 [(!(decide (v_29 = (!v_31))))]).bind fun v_296 =>
     some (.inl ((op_0_2, x_8_2, y_9_2, less_10_2, v_296, t110_275, (IntKind.i64.wrap (i_15_2 + 1)), ()), (p6_0_2.1, p6_0_2.2.1, p6_0_2.2.2.1, ()), ()))
    else
    (roomI 1 out_13_2 [(bif v_29 then true else !v_31)]).bind fun v_298 =>
    some (.inl ((op_0_2, x_8_2, y_9_2, less_10_2, v_298, t110_275, (IntKind.i64.wrap (i_15_2 + 1)), ()), (p6_0_2.1, p6_0_2.2.1, p6_0_2.2.2.1, ()), ()))
   else
   bif (decide (op_0_2 = [120, 111, 114])) then
    (roomI 1 out_13_2 [(!(decide (v_29 = (!v_31))))]).bind fun v_302 =>
    some (.inl ((op_0_2, x_8_2, y_9_2, less_10_2, v_302, t110_275, (IntKind.i64.wrap (i_15_2 + 1)), ()), (p6_0_2.1, p6_0_2.2.1, p6_0_2.2.2.1, ()), ()))
   else
   (roomI 1 out_13_2 [(decide (((0 : Int).tmod 2) = 1))]).bind fun v_304 =>
   some (.inl ((op_0_2, x_8_2, y_9_2, less_10_2, v_304, t110_275, (IntKind.i64.wrap (i_15_2 + 1)), ()), (p6_0_2.1, p6_0_2.2.1, p6_0_2.2.2.1, ()), ()))
  else
  bif v_29 then
   let t99_306 : Int := IntKind.i64.wrap (0 + 1)
   bif v_31 then
    let t102_307 : Int := IntKind.i64.wrap (t99_306 + 1)
    bif carry_14_2 then
     let t105_308 : Int := IntKind.i64.wrap (t102_307 + 1)
     let t110_311 : Bool := decide (t105_308 ≥ 2)
     bif (decide (op_0_2 = [97, 110, 100])) then
      guardR v_29 (some ()) () fun _ =>
      bif (decide (op_0_2 = [111, 114])) then
       guardR (!v_29) (some ()) () fun _ =>
       bif (decide (op_0_2 = [120, 111, 114])) then
        (roomI 1 out_13_2 [(!(decide (v_29 = v_31)))]).bind fun v_318 =>
        some (.inl ((op_0_2, x_8_2, y_9_2, less_10_2, v_318, t110_311, (IntKind.i64.wrap (i_15_2 + 1)), ()), (p6_0_2.1, p6_0_2.2.1, p6_0_2.2.2.1, ()), ()))
       else
       (roomI 1 out_13_2 [(bif v_29 then true else v_31)]).bind fun v_320 =>
       some (.inl ((op_0_2, x_8_2, y_9_2, less_10_2, v_320, t110_311, (IntKind.i64.wrap (i_15_2 + 1)), ()), (p6_0_2.1, p6_0_2.2.1, p6_0_2.2.2.1, ()), ()))
      else
      bif (decide (op_0_2 = [120, 111, 114])) then
       (roomI 1 out_13_2 [(!(decide (v_29 = v_31)))]).bind fun v_324 =>
       some (.inl ((op_0_2, x_8_2, y_9_2, less_10_2, v_324, t110_311, (IntKind.i64.wrap (i_15_2 + 1)), ()), (p6_0_2.1, p6_0_2.2.1, p6_0_2.2.2.1, ()), ()))
      else
      (roomI 1 out_13_2 [(bif v_29 then v_31 else false)]).bind fun v_326 =>
      some (.inl ((op_0_2, x_8_2, y_9_2, less_10_2, v_326, t110_311, (IntKind.i64.wrap (i_15_2 + 1)), ()), (p6_0_2.1, p6_0_2.2.1, p6_0_2.2.2.1, ()), ()))
     else
     bif (decide (op_0_2 = [111, 114])) then
      guardR (!v_29) (some ()) () fun _ =>
      bif (decide (op_0_2 = [120, 111, 114])) then
       (roomI 1 out_13_2 [(!(decide (v_29 = v_31)))]).bind fun v_332 =>
       some (.inl ((op_0_2, x_8_2, y_9_2, less_10_2, v_332, t110_311, (IntKind.i64.wrap (i_15_2 + 1)), ()), (p6_0_2.1, p6_0_2.2.1, p6_0_2.2.2.1, ()), ()))
      else
      (roomI 1 out_13_2 [(bif v_29 then true else v_31)]).bind fun v_334 =>
      some (.inl ((op_0_2, x_8_2, y_9_2, less_10_2, v_334, t110_311, (IntKind.i64.wrap (i_15_2 + 1)), ()), (p6_0_2.1, p6_0_2.2.1, p6_0_2.2.2.1, ()), ()))
     else
     bif (decide (op_0_2 = [120, 111, 114])) then
      (roomI 1 out_13_2 [(!(decide (v_29 = v_31)))]).bind fun v_338 =>
      some (.inl ((op_0_2, x_8_2, y_9_2, less_10_2, v_338, t110_311, (IntKind.i64.wrap (i_15_2 + 1)), ()), (p6_0_2.1, p6_0_2.2.1, p6_0_2.2.2.1, ()), ()))
     else
     (roomI 1 out_13_2 [(decide ((t105_308.tmod 2) = 1))]).bind fun v_340 =>
     some (.inl ((op_0_2, x_8_2, y_9_2, less_10_2, v_340, t110_311, (IntKind.i64.wrap (i_15_2 + 1)), ()), (p6_0_2.1, p6_0_2.2.1, p6_0_2.2.2.1, ()), ()))
    else
    let t110_344 : Bool := decide (t102_307 ≥ 2)
    bif (decide (op_0_2 = [97, 110, 100])) then
     guardR v_29 (some ()) () fun _ =>
     bif (decide (op_0_2 = [111, 114])) then
      guardR (!v_29) (some ()) () fun _ =>
      bif (decide (op_0_2 = [120, 111, 114])) then
       (roomI 1 out_13_2 [(!(decide (v_29 = v_31)))]).bind fun v_351 =>
       some (.inl ((op_0_2, x_8_2, y_9_2, less_10_2, v_351, t110_344, (IntKind.i64.wrap (i_15_2 + 1)), ()), (p6_0_2.1, p6_0_2.2.1, p6_0_2.2.2.1, ()), ()))
      else
      (roomI 1 out_13_2 [(bif v_29 then true else v_31)]).bind fun v_353 =>
      some (.inl ((op_0_2, x_8_2, y_9_2, less_10_2, v_353, t110_344, (IntKind.i64.wrap (i_15_2 + 1)), ()), (p6_0_2.1, p6_0_2.2.1, p6_0_2.2.2.1, ()), ()))
     else
     bif (decide (op_0_2 = [120, 111, 114])) then
      (roomI 1 out_13_2 [(!(decide (v_29 = v_31)))]).bind fun v_357 =>
      some (.inl ((op_0_2, x_8_2, y_9_2, less_10_2, v_357, t110_344, (IntKind.i64.wrap (i_15_2 + 1)), ()), (p6_0_2.1, p6_0_2.2.1, p6_0_2.2.2.1, ()), ()))
     else
     (roomI 1 out_13_2 [(bif v_29 then v_31 else false)]).bind fun v_359 =>
     some (.inl ((op_0_2, x_8_2, y_9_2, less_10_2, v_359, t110_344, (IntKind.i64.wrap (i_15_2 + 1)), ()), (p6_0_2.1, p6_0_2.2.1, p6_0_2.2.2.1, ()), ()))
    else
    bif (decide (op_0_2 = [111, 114])) then
     guardR (!v_29) (some ()) () fun _ =>
     bif (decide (op_0_2 = [120, 111, 114])) then
      (roomI 1 out_13_2 [(!(decide (v_29 = v_31)))]).bind fun v_365 =>
      some (.inl ((op_0_2, x_8_2, y_9_2, less_10_2, v_365, t110_344, (IntKind.i64.wrap (i_15_2 + 1)), ()), (p6_0_2.1, p6_0_2.2.1, p6_0_2.2.2.1, ()), ()))
     else
     (roomI 1 out_13_2 [(bif v_29 then true else v_31)]).bind fun v_367 =>
     some (.inl ((op_0_2, x_8_2, y_9_2, less_10_2, v_367, t110_344, (IntKind.i64.wrap (i_15_2 + 1)), ()), (p6_0_2.1, p6_0_2.2.1, p6_0_2.2.2.1, ()), ()))
    else
    bif (decide (op_0_2 = [120, 111, 114])) then
     (roomI 1 out_13_2 [(!(decide (v_29 = v_31)))]).bind fun v_371 =>
     some (.inl ((op_0_2, x_8_2, y_9_2, less_10_2, v_371, t110_344, (IntKind.i64.wrap (i_15_2 + 1)), ()), (p6_0_2.1, p6_0_2.2.1, p6_0_2.2.2.1, ()), ()))
    else
    (roomI 1 out_13_2 [(decide ((t102_307.tmod 2) = 1))]).bind fun v_373 =>
    some (.inl ((op_0_2, x_8_2, y_9_2, less_10_2, v_373, t110_344, (IntKind.i64.wrap (i_15_2 + 1)), ()), (p6_0_2.1, p6_0_2.2.1, p6_0_2.2.2.1, ()), ()))
   else
   bif carry_14_2 then
    let t105_375 : Int := IntKind.i64.wrap (t99_306 + 1)
    let t110_378 : Bool := decide (t105_375 ≥ 2)
    bif (decide (op_0_2 = [97, 110, 100])) then
     guardR v_29 (some ()) () fun _ =>
     bif (decide (op_0_2 = [111, 114])) then
      guardR (!v_29) (some ()) () fun _ =>
      bif (decide (op_0_2 = [120, 111, 114])) then
       (roomI 1 out_13_2 [(!(decide (v_29 = v_31)))]).bind fun v_385 =>
       some (.inl ((op_0_2, x_8_2, y_9_2, less_10_2, v_385, t110_378, (IntKind.i64.wrap (i_15_2 + 1)), ()), (p6_0_2.1, p6_0_2.2.1, p6_0_2.2.2.1, ()), ()))
      else
      (roomI 1 out_13_2 [(bif v_29 then true else v_31)]).bind fun v_387 =>
      some (.inl ((op_0_2, x_8_2, y_9_2, less_10_2, v_387, t110_378, (IntKind.i64.wrap (i_15_2 + 1)), ()), (p6_0_2.1, p6_0_2.2.1, p6_0_2.2.2.1, ()), ()))
     else
     bif (decide (op_0_2 = [120, 111, 114])) then
      (roomI 1 out_13_2 [(!(decide (v_29 = v_31)))]).bind fun v_391 =>
      some (.inl ((op_0_2, x_8_2, y_9_2, less_10_2, v_391, t110_378, (IntKind.i64.wrap (i_15_2 + 1)), ()), (p6_0_2.1, p6_0_2.2.1, p6_0_2.2.2.1, ()), ()))
     else
     (roomI 1 out_13_2 [(bif v_29 then v_31 else false)]).bind fun v_393 =>
     some (.inl ((op_0_2, x_8_2, y_9_2, less_10_2, v_393, t110_378, (IntKind.i64.wrap (i_15_2 + 1)), ()), (p6_0_2.1, p6_0_2.2.1, p6_0_2.2.2.1, ()), ()))
    else
    bif (decide (op_0_2 = [111, 114])) then
     guardR (!v_29) (some ()) () fun _ =>
     bif (decide (op_0_2 = [120, 111, 114])) then
      (roomI 1 out_13_2 [(!(decide (v_29 = v_31)))]).bind fun v_399 =>
      some (.inl ((op_0_2, x_8_2, y_9_2, less_10_2, v_399, t110_378, (IntKind.i64.wrap (i_15_2 + 1)), ()), (p6_0_2.1, p6_0_2.2.1, p6_0_2.2.2.1, ()), ()))
     else
     (roomI 1 out_13_2 [(bif v_29 then true else v_31)]).bind fun v_401 =>
     some (.inl ((op_0_2, x_8_2, y_9_2, less_10_2, v_401, t110_378, (IntKind.i64.wrap (i_15_2 + 1)), ()), (p6_0_2.1, p6_0_2.2.1, p6_0_2.2.2.1, ()), ()))
    else
    bif (decide (op_0_2 = [120, 111, 114])) then
     (roomI 1 out_13_2 [(!(decide (v_29 = v_31)))]).bind fun v_405 =>
     some (.inl ((op_0_2, x_8_2, y_9_2, less_10_2, v_405, t110_378, (IntKind.i64.wrap (i_15_2 + 1)), ()), (p6_0_2.1, p6_0_2.2.1, p6_0_2.2.2.1, ()), ()))
    else
    (roomI 1 out_13_2 [(decide ((t105_375.tmod 2) = 1))]).bind fun v_407 =>
    some (.inl ((op_0_2, x_8_2, y_9_2, less_10_2, v_407, t110_378, (IntKind.i64.wrap (i_15_2 + 1)), ()), (p6_0_2.1, p6_0_2.2.1, p6_0_2.2.2.1, ()), ()))
   else
   let t110_411 : Bool := decide (t99_306 ≥ 2)
   bif (decide (op_0_2 = [97, 110, 100])) then
    guardR v_29 (some ()) () fun _ =>
    bif (decide (op_0_2 = [111, 114])) then
     guardR (!v_29) (some ()) () fun _ =>
     bif (decide (op_0_2 = [120, 111, 114])) then
      (roomI 1 out_13_2 [(!(decide (v_29 = v_31)))]).bind fun v_418 =>
      some (.inl ((op_0_2, x_8_2, y_9_2, less_10_2, v_418, t110_411, (IntKind.i64.wrap (i_15_2 + 1)), ()), (p6_0_2.1, p6_0_2.2.1, p6_0_2.2.2.1, ()), ()))
     else
     (roomI 1 out_13_2 [(bif v_29 then true else v_31)]).bind fun v_420 =>
     some (.inl ((op_0_2, x_8_2, y_9_2, less_10_2, v_420, t110_411, (IntKind.i64.wrap (i_15_2 + 1)), ()), (p6_0_2.1, p6_0_2.2.1, p6_0_2.2.2.1, ()), ()))
    else
    bif (decide (op_0_2 = [120, 111, 114])) then
     (roomI 1 out_13_2 [(!(decide (v_29 = v_31)))]).bind fun v_424 =>
     some (.inl ((op_0_2, x_8_2, y_9_2, less_10_2, v_424, t110_411, (IntKind.i64.wrap (i_15_2 + 1)), ()), (p6_0_2.1, p6_0_2.2.1, p6_0_2.2.2.1, ()), ()))
    else
    (roomI 1 out_13_2 [(bif v_29 then v_31 else false)]).bind fun v_426 =>
    some (.inl ((op_0_2, x_8_2, y_9_2, less_10_2, v_426, t110_411, (IntKind.i64.wrap (i_15_2 + 1)), ()), (p6_0_2.1, p6_0_2.2.1, p6_0_2.2.2.1, ()), ()))
   else
   bif (decide (op_0_2 = [111, 114])) then
    guardR (!v_29) (some ()) () fun _ =>
    bif (decide (op_0_2 = [120, 111, 114])) then
     (roomI 1 out_13_2 [(!(decide (v_29 = v_31)))]).bind fun v_432 =>
     some (.inl ((op_0_2, x_8_2, y_9_2, less_10_2, v_432, t110_411, (IntKind.i64.wrap (i_15_2 + 1)), ()), (p6_0_2.1, p6_0_2.2.1, p6_0_2.2.2.1, ()), ()))
    else
    (roomI 1 out_13_2 [(bif v_29 then true else v_31)]).bind fun v_434 =>
    some (.inl ((op_0_2, x_8_2, y_9_2, less_10_2, v_434, t110_411, (IntKind.i64.wrap (i_15_2 + 1)), ()), (p6_0_2.1, p6_0_2.2.1, p6_0_2.2.2.1, ()), ()))
   else
   bif (decide (op_0_2 = [120, 111, 114])) then
    (roomI 1 out_13_2 [(!(decide (v_29 = v_31)))]).bind fun v_438 =>
    some (.inl ((op_0_2, x_8_2, y_9_2, less_10_2, v_438, t110_411, (IntKind.i64.wrap (i_15_2 + 1)), ()), (p6_0_2.1, p6_0_2.2.1, p6_0_2.2.2.1, ()), ()))
   else
   (roomI 1 out_13_2 [(decide ((t99_306.tmod 2) = 1))]).bind fun v_440 =>
   some (.inl ((op_0_2, x_8_2, y_9_2, less_10_2, v_440, t110_411, (IntKind.i64.wrap (i_15_2 + 1)), ()), (p6_0_2.1, p6_0_2.2.1, p6_0_2.2.2.1, ()), ()))
  else
  bif v_31 then
   let t102_442 : Int := IntKind.i64.wrap (0 + 1)
   bif carry_14_2 then
    let t105_443 : Int := IntKind.i64.wrap (t102_442 + 1)
    let t110_446 : Bool := decide (t105_443 ≥ 2)
    bif (decide (op_0_2 = [97, 110, 100])) then
     guardR v_29 (some ()) () fun _ =>
     bif (decide (op_0_2 = [111, 114])) then
      guardR (!v_29) (some ()) () fun _ =>
      bif (decide (op_0_2 = [120, 111, 114])) then
       (roomI 1 out_13_2 [(!(decide (v_29 = v_31)))]).bind fun v_453 =>
       some (.inl ((op_0_2, x_8_2, y_9_2, less_10_2, v_453, t110_446, (IntKind.i64.wrap (i_15_2 + 1)), ()), (p6_0_2.1, p6_0_2.2.1, p6_0_2.2.2.1, ()), ()))
      else
      (roomI 1 out_13_2 [(bif v_29 then true else v_31)]).bind fun v_455 =>
      some (.inl ((op_0_2, x_8_2, y_9_2, less_10_2, v_455, t110_446, (IntKind.i64.wrap (i_15_2 + 1)), ()), (p6_0_2.1, p6_0_2.2.1, p6_0_2.2.2.1, ()), ()))
     else
     bif (decide (op_0_2 = [120, 111, 114])) then
      (roomI 1 out_13_2 [(!(decide (v_29 = v_31)))]).bind fun v_459 =>
      some (.inl ((op_0_2, x_8_2, y_9_2, less_10_2, v_459, t110_446, (IntKind.i64.wrap (i_15_2 + 1)), ()), (p6_0_2.1, p6_0_2.2.1, p6_0_2.2.2.1, ()), ()))
     else
     (roomI 1 out_13_2 [(bif v_29 then v_31 else false)]).bind fun v_461 =>
     some (.inl ((op_0_2, x_8_2, y_9_2, less_10_2, v_461, t110_446, (IntKind.i64.wrap (i_15_2 + 1)), ()), (p6_0_2.1, p6_0_2.2.1, p6_0_2.2.2.1, ()), ()))
    else
    bif (decide (op_0_2 = [111, 114])) then
     guardR (!v_29) (some ()) () fun _ =>
     bif (decide (op_0_2 = [120, 111, 114])) then
      (roomI 1 out_13_2 [(!(decide (v_29 = v_31)))]).bind fun v_467 =>
      some (.inl ((op_0_2, x_8_2, y_9_2, less_10_2, v_467, t110_446, (IntKind.i64.wrap (i_15_2 + 1)), ()), (p6_0_2.1, p6_0_2.2.1, p6_0_2.2.2.1, ()), ()))
     else
     (roomI 1 out_13_2 [(bif v_29 then true else v_31)]).bind fun v_469 =>
     some (.inl ((op_0_2, x_8_2, y_9_2, less_10_2, v_469, t110_446, (IntKind.i64.wrap (i_15_2 + 1)), ()), (p6_0_2.1, p6_0_2.2.1, p6_0_2.2.2.1, ()), ()))
    else
    bif (decide (op_0_2 = [120, 111, 114])) then
     (roomI 1 out_13_2 [(!(decide (v_29 = v_31)))]).bind fun v_473 =>
     some (.inl ((op_0_2, x_8_2, y_9_2, less_10_2, v_473, t110_446, (IntKind.i64.wrap (i_15_2 + 1)), ()), (p6_0_2.1, p6_0_2.2.1, p6_0_2.2.2.1, ()), ()))
    else
    (roomI 1 out_13_2 [(decide ((t105_443.tmod 2) = 1))]).bind fun v_475 =>
    some (.inl ((op_0_2, x_8_2, y_9_2, less_10_2, v_475, t110_446, (IntKind.i64.wrap (i_15_2 + 1)), ()), (p6_0_2.1, p6_0_2.2.1, p6_0_2.2.2.1, ()), ()))
   else
   let t110_479 : Bool := decide (t102_442 ≥ 2)
   bif (decide (op_0_2 = [97, 110, 100])) then
    guardR v_29 (some ()) () fun _ =>
    bif (decide (op_0_2 = [111, 114])) then
     guardR (!v_29) (some ()) () fun _ =>
     bif (decide (op_0_2 = [120, 111, 114])) then
      (roomI 1 out_13_2 [(!(decide (v_29 = v_31)))]).bind fun v_486 =>
      some (.inl ((op_0_2, x_8_2, y_9_2, less_10_2, v_486, t110_479, (IntKind.i64.wrap (i_15_2 + 1)), ()), (p6_0_2.1, p6_0_2.2.1, p6_0_2.2.2.1, ()), ()))
     else
     (roomI 1 out_13_2 [(bif v_29 then true else v_31)]).bind fun v_488 =>
     some (.inl ((op_0_2, x_8_2, y_9_2, less_10_2, v_488, t110_479, (IntKind.i64.wrap (i_15_2 + 1)), ()), (p6_0_2.1, p6_0_2.2.1, p6_0_2.2.2.1, ()), ()))
    else
    bif (decide (op_0_2 = [120, 111, 114])) then
     (roomI 1 out_13_2 [(!(decide (v_29 = v_31)))]).bind fun v_492 =>
     some (.inl ((op_0_2, x_8_2, y_9_2, less_10_2, v_492, t110_479, (IntKind.i64.wrap (i_15_2 + 1)), ()), (p6_0_2.1, p6_0_2.2.1, p6_0_2.2.2.1, ()), ()))
    else
    (roomI 1 out_13_2 [(bif v_29 then v_31 else false)]).bind fun v_494 =>
    some (.inl ((op_0_2, x_8_2, y_9_2, less_10_2, v_494, t110_479, (IntKind.i64.wrap (i_15_2 + 1)), ()), (p6_0_2.1, p6_0_2.2.1, p6_0_2.2.2.1, ()), ()))
   else
   bif (decide (op_0_2 = [111, 114])) then
    guardR (!v_29) (some ()) () fun _ =>
    bif (decide (op_0_2 = [120, 111, 114])) then
     (roomI 1 out_13_2 [(!(decide (v_29 = v_31)))]).bind fun v_500 =>
     some (.inl ((op_0_2, x_8_2, y_9_2, less_10_2, v_500, t110_479, (IntKind.i64.wrap (i_15_2 + 1)), ()), (p6_0_2.1, p6_0_2.2.1, p6_0_2.2.2.1, ()), ()))
    else
    (roomI 1 out_13_2 [(bif v_29 then true else v_31)]).bind fun v_502 =>
    some (.inl ((op_0_2, x_8_2, y_9_2, less_10_2, v_502, t110_479, (IntKind.i64.wrap (i_15_2 + 1)), ()), (p6_0_2.1, p6_0_2.2.1, p6_0_2.2.2.1, ()), ()))
   else
   bif (decide (op_0_2 = [120, 111, 114])) then
    (roomI 1 out_13_2 [(!(decide (v_29 = v_31)))]).bind fun v_506 =>
    some (.inl ((op_0_2, x_8_2, y_9_2, less_10_2, v_506, t110_479, (IntKind.i64.wrap (i_15_2 + 1)), ()), (p6_0_2.1, p6_0_2.2.1, p6_0_2.2.2.1, ()), ()))
   else
   (roomI 1 out_13_2 [(decide ((t102_442.tmod 2) = 1))]).bind fun v_508 =>
   some (.inl ((op_0_2, x_8_2, y_9_2, less_10_2, v_508, t110_479, (IntKind.i64.wrap (i_15_2 + 1)), ()), (p6_0_2.1, p6_0_2.2.1, p6_0_2.2.2.1, ()), ()))
  else
  bif carry_14_2 then
   let t105_510 : Int := IntKind.i64.wrap (0 + 1)
   let t110_513 : Bool := decide (t105_510 ≥ 2)
   bif (decide (op_0_2 = [97, 110, 100])) then
    guardR v_29 (some ()) () fun _ =>
    bif (decide (op_0_2 = [111, 114])) then
     guardR (!v_29) (some ()) () fun _ =>
     bif (decide (op_0_2 = [120, 111, 114])) then
      (roomI 1 out_13_2 [(!(decide (v_29 = v_31)))]).bind fun v_520 =>
      some (.inl ((op_0_2, x_8_2, y_9_2, less_10_2, v_520, t110_513, (IntKind.i64.wrap (i_15_2 + 1)), ()), (p6_0_2.1, p6_0_2.2.1, p6_0_2.2.2.1, ()), ()))
     else
     (roomI 1 out_13_2 [(bif v_29 then true else v_31)]).bind fun v_522 =>
     some (.inl ((op_0_2, x_8_2, y_9_2, less_10_2, v_522, t110_513, (IntKind.i64.wrap (i_15_2 + 1)), ()), (p6_0_2.1, p6_0_2.2.1, p6_0_2.2.2.1, ()), ()))
    else
    bif (decide (op_0_2 = [120, 111, 114])) then
     (roomI 1 out_13_2 [(!(decide (v_29 = v_31)))]).bind fun v_526 =>
     some (.inl ((op_0_2, x_8_2, y_9_2, less_10_2, v_526, t110_513, (IntKind.i64.wrap (i_15_2 + 1)), ()), (p6_0_2.1, p6_0_2.2.1, p6_0_2.2.2.1, ()), ()))
    else
    (roomI 1 out_13_2 [(bif v_29 then v_31 else false)]).bind fun v_528 =>
    some (.inl ((op_0_2, x_8_2, y_9_2, less_10_2, v_528, t110_513, (IntKind.i64.wrap (i_15_2 + 1)), ()), (p6_0_2.1, p6_0_2.2.1, p6_0_2.2.2.1, ()), ()))
   else
   bif (decide (op_0_2 = [111, 114])) then
    guardR (!v_29) (some ()) () fun _ =>
    bif (decide (op_0_2 = [120, 111, 114])) then
     (roomI 1 out_13_2 [(!(decide (v_29 = v_31)))]).bind fun v_534 =>
     some (.inl ((op_0_2, x_8_2, y_9_2, less_10_2, v_534, t110_513, (IntKind.i64.wrap (i_15_2 + 1)), ()), (p6_0_2.1, p6_0_2.2.1, p6_0_2.2.2.1, ()), ()))
    else
    (roomI 1 out_13_2 [(bif v_29 then true else v_31)]).bind fun v_536 =>
    some (.inl ((op_0_2, x_8_2, y_9_2, less_10_2, v_536, t110_513, (IntKind.i64.wrap (i_15_2 + 1)), ()), (p6_0_2.1, p6_0_2.2.1, p6_0_2.2.2.1, ()), ()))
   else
   bif (decide (op_0_2 = [120, 111, 114])) then
    (roomI 1 out_13_2 [(!(decide (v_29 = v_31)))]).bind fun v_540 =>
    some (.inl ((op_0_2, x_8_2, y_9_2, less_10_2, v_540, t110_513, (IntKind.i64.wrap (i_15_2 + 1)), ()), (p6_0_2.1, p6_0_2.2.1, p6_0_2.2.2.1, ()), ()))
   else
   (roomI 1 out_13_2 [(decide ((t105_510.tmod 2) = 1))]).bind fun v_542 =>
   some (.inl ((op_0_2, x_8_2, y_9_2, less_10_2, v_542, t110_513, (IntKind.i64.wrap (i_15_2 + 1)), ()), (p6_0_2.1, p6_0_2.2.1, p6_0_2.2.2.1, ()), ()))
  else
  let t110_546 : Bool := decide ((0 : Int) ≥ 2)
  bif (decide (op_0_2 = [97, 110, 100])) then
   guardR v_29 (some ()) () fun _ =>
   bif (decide (op_0_2 = [111, 114])) then
    guardR (!v_29) (some ()) () fun _ =>
    bif (decide (op_0_2 = [120, 111, 114])) then
     (roomI 1 out_13_2 [(!(decide (v_29 = v_31)))]).bind fun v_553 =>
     some (.inl ((op_0_2, x_8_2, y_9_2, less_10_2, v_553, t110_546, (IntKind.i64.wrap (i_15_2 + 1)), ()), (p6_0_2.1, p6_0_2.2.1, p6_0_2.2.2.1, ()), ()))
    else
    (roomI 1 out_13_2 [(bif v_29 then true else v_31)]).bind fun v_555 =>
    some (.inl ((op_0_2, x_8_2, y_9_2, less_10_2, v_555, t110_546, (IntKind.i64.wrap (i_15_2 + 1)), ()), (p6_0_2.1, p6_0_2.2.1, p6_0_2.2.2.1, ()), ()))
   else
   bif (decide (op_0_2 = [120, 111, 114])) then
    (roomI 1 out_13_2 [(!(decide (v_29 = v_31)))]).bind fun v_559 =>
    some (.inl ((op_0_2, x_8_2, y_9_2, less_10_2, v_559, t110_546, (IntKind.i64.wrap (i_15_2 + 1)), ()), (p6_0_2.1, p6_0_2.2.1, p6_0_2.2.2.1, ()), ()))
   else
   (roomI 1 out_13_2 [(bif v_29 then v_31 else false)]).bind fun v_561 =>
   some (.inl ((op_0_2, x_8_2, y_9_2, less_10_2, v_561, t110_546, (IntKind.i64.wrap (i_15_2 + 1)), ()), (p6_0_2.1, p6_0_2.2.1, p6_0_2.2.2.1, ()), ()))
  else
  bif (decide (op_0_2 = [111, 114])) then
   guardR (!v_29) (some ()) () fun _ =>
   bif (decide (op_0_2 = [120, 111, 114])) then
    (roomI 1 out_13_2 [(!(decide (v_29 = v_31)))]).bind fun v_567 =>
    some (.inl ((op_0_2, x_8_2, y_9_2, less_10_2, v_567, t110_546, (IntKind.i64.wrap (i_15_2 + 1)), ()), (p6_0_2.1, p6_0_2.2.1, p6_0_2.2.2.1, ()), ()))
   else
   (roomI 1 out_13_2 [(bif v_29 then true else v_31)]).bind fun v_569 =>
   some (.inl ((op_0_2, x_8_2, y_9_2, less_10_2, v_569, t110_546, (IntKind.i64.wrap (i_15_2 + 1)), ()), (p6_0_2.1, p6_0_2.2.1, p6_0_2.2.2.1, ()), ()))
  else
  bif (decide (op_0_2 = [120, 111, 114])) then
   (roomI 1 out_13_2 [(!(decide (v_29 = v_31)))]).bind fun v_573 =>
   some (.inl ((op_0_2, x_8_2, y_9_2, less_10_2, v_573, t110_546, (IntKind.i64.wrap (i_15_2 + 1)), ()), (p6_0_2.1, p6_0_2.2.1, p6_0_2.2.2.1, ()), ()))
  else
  (roomI 1 out_13_2 [(decide (((0 : Int).tmod 2) = 1))]).bind fun v_575 =>
  some (.inl ((op_0_2, x_8_2, y_9_2, less_10_2, v_575, t110_546, (IntKind.i64.wrap (i_15_2 + 1)), ()), (p6_0_2.1, p6_0_2.2.1, p6_0_2.2.2.1, ()), ()))
 else
 (loopR (fun (z : ((List Int) × Bool × (List Bool) × Bool × Int × Unit) × ((Int × Int × Int × Unit) × Unit)) => ref02_Two_s4 z.1.1 z.1.2.1 z.1.2.2.1 z.1.2.2.2.1 z.1.2.2.2.2.1 z.2.1) ((op_0_2, less_10_2, out_13_2, carry_14_2, 0, ()), (p6_0_2.1, p6_0_2.2.1, p6_0_2.2.2.1, ()), ())).map .inr
noncomputable def ref02_Two_s0 (op_0_0 : List Int) (x_8_0 : List Bool) (y_9_0 : List Bool) (less_10_0 : Bool) (same_11_0 : Bool) (i_12_0 : Int) (p6_0_0 : Int × Int × Int × Unit) : Option ((((List Int) × (List Bool) × (List Bool) × Bool × Bool × Int × Unit) × ((Int × Int × Int × Unit) × Unit)) ⊕ (((Int × Int × Int × Unit) × Int × Unit) × (Unit))) :=
 bif (decide (i_12_0 < (x_8_0.length : Int))) then
  (Option.map (fun _ => i_12_0) (ckI i_12_0 x_8_0.length)).bind fun v_10 =>
  (rdI x_8_0 v_10).bind fun v_11 =>
  (Option.map (fun _ => i_12_0) (ckI i_12_0 y_9_0.length)).bind fun v_12 =>
  (rdI y_9_0 v_12).bind fun v_13 =>
  bif (!(decide (v_11 = v_13))) then
   (Option.map (fun _ => i_12_0) (ckI i_12_0 y_9_0.length)).bind fun v_15 =>
   (rdI y_9_0 v_15).bind fun v_16 =>
   some (.inl ((op_0_0, x_8_0, y_9_0, v_16, false, (IntKind.i64.wrap (i_12_0 + 1)), ()), (p6_0_0.1, p6_0_0.2.1, p6_0_0.2.2.1, ()), ()))
  else
  some (.inl ((op_0_0, x_8_0, y_9_0, less_10_0, same_11_0, (IntKind.i64.wrap (i_12_0 + 1)), ()), (p6_0_0.1, p6_0_0.2.1, p6_0_0.2.2.1, ()), ()))
 else
 (bif (decide (op_0_0 = [101, 113])) then
  (ref02_Of [same_11_0]).bind fun r_20 =>
  some ((r_20.1.1, 0, ()), ())
 else
 bif (decide (op_0_0 = [108, 101, 115, 115])) then
  (ref02_Of [less_10_0]).bind fun r_22 =>
  some ((r_22.1.1, 0, ()), ())
 else
 let t70_23 : Bool := decide (op_0_0 = [115, 117, 98])
 guardR (!t70_23) (some ()) () fun _ =>
 guardR (!t70_23) (some (decide (op_0_0 = [115, 117, 98, 115, 97, 116]))) false fun v_24 =>
 loopR (fun (z : ((List Int) × (List Bool) × (List Bool) × Bool × (List Bool) × Bool × Int × Unit) × ((Int × Int × Int × Unit) × Unit)) => ref02_Two_s2 z.1.1 z.1.2.1 z.1.2.2.1 z.1.2.2.2.1 z.1.2.2.2.2.1 z.1.2.2.2.2.2.1 z.1.2.2.2.2.2.2.1 z.2.1) ((op_0_0, x_8_0, y_9_0, less_10_0, [], (bif t70_23 then true else v_24), 0, ()), (p6_0_0.1, p6_0_0.2.1, p6_0_0.2.2.1, ()), ())).map .inr
noncomputable def ref02_Two (op_0 : List Int) (a_1 : Int × Int × Int × Unit) (b_2 : Int × Int × Int × Unit) : Option (((Int × Int × Int × Unit) × Int × Unit) × (Unit)) :=
 (ref02_May (a_1.1, a_1.2.1, a_1.2.2.1, ())).bind fun r_1 =>
 guardR (!(!r_1.1.1)) (some (b_2.1, b_2.2.1, b_2.2.2.1, ())) (0, 0, 0, ()) fun v_2 =>
 guardR (!(!r_1.1.1)) (ref02_May v_2) ((false, ()), ()) fun r_3 =>
 guardR (!(!r_1.1.1)) (some ()) () fun _ =>
 bif (bif !r_1.1.1 then true else !r_3.1.1) then
  some (((0, 0, 0, ()), 1, ()), ())
 else
 bif (!decide (a_1.1 = b_2.1)) then
  some (((0, 0, 0, ()), 9, ()), ())
 else
 (ref02_Bits (a_1.1, a_1.2.1, a_1.2.2.1, ())).bind fun r_6 =>
 (ref02_Bits (b_2.1, b_2.2.1, b_2.2.2.1, ())).bind fun r_7 =>
 loopR (fun (z : ((List Int) × (List Bool) × (List Bool) × Bool × Bool × Int × Unit) × ((Int × Int × Int × Unit) × Unit)) => ref02_Two_s0 z.1.1 z.1.2.1 z.1.2.2.1 z.1.2.2.2.1 z.1.2.2.2.2.1 z.1.2.2.2.2.2.1 z.2.1) ((op_0, r_6.1.1, r_7.1.1, false, true, 0, ()), (0, 0, 0, ()), ())

noncomputable def ref02_Within (a_0 : Int × Int × Int × Unit) (lo_1 : Int × Int × Int × Unit) (hi_2 : Int × Int × Int × Unit) : Option ((Bool × Unit) × (Unit)) :=
 (ref02_Two [108, 101, 115, 115] (a_0.1, a_0.2.1, a_0.2.2.1, ()) (lo_1.1, lo_1.2.1, lo_1.2.2.1, ())).bind fun r_1 =>
 (ref02_Two [108, 101, 115, 115] (hi_2.1, hi_2.2.1, hi_2.2.2.1, ()) (a_0.1, a_0.2.1, a_0.2.2.1, ())).bind fun r_2 =>
 let t24_3 : Bool := decide (r_1.1.2.1 = 0)
 guardR t24_3 (some ()) () fun _ =>
 guardR t24_3 (some (decide (r_2.1.2.1 = 0))) false fun v_4 =>
 let t28_5 : Bool := bif t24_3 then v_4 else false
 guardR t28_5 (some ()) () fun _ =>
 guardR t28_5 (some r_1.1.1.2.2.1) 0 fun v_6 =>
 guardR t28_5 (some (decide (v_6 = 0))) false fun v_7 =>
 let t33_8 : Bool := bif t28_5 then v_7 else false
 guardR t33_8 (some ()) () fun _ =>
 guardR t33_8 (some r_2.1.1.2.2.1) 0 fun v_9 =>
 guardR t33_8 (some (decide (v_9 = 0))) false fun v_10 =>
 some (((bif t33_8 then v_10 else false), ()), ())

noncomputable def ref02_One_s0 (op_0_0 : List Int) (n_2_0 : Int) (x_8_0 : List Bool) (w_9_0 : Int) (out_10_0 : List Bool) (carry_11_0 : Bool) (i_12_0 : Int) (p6_0_0 : Int × Int × Int × Unit) : Option ((((List Int) × Int × (List Bool) × Int × (List Bool) × Bool × Int × Unit) × ((Int × Int × Int × Unit) × Unit)) ⊕ (((Int × Int × Int × Unit) × Int × Unit) × (Unit))) :=
 bif (decide (i_12_0 < w_9_0)) then
  let t56_17 : Bool := decide (i_12_0 < (x_8_0.length : Int))
  guardR t56_17 (some ()) () fun _ =>
  guardR t56_17 (some ()) () fun _ =>
  guardR t56_17 (Option.map (fun _ => i_12_0) (ckI i_12_0 x_8_0.length)) 0 fun v_18 =>
  guardR t56_17 (rdI x_8_0 v_18) false fun v_19 =>
  let t62_20 : Bool := bif t56_17 then v_19 else false
  bif (decide (op_0_0 = [110, 111, 116])) then
   bif (decide (op_0_0 = [110, 101, 103])) then
    guardR (!(!t62_20)) (some ()) () fun _ =>
    let t77_24 : Bool := bif !(!t62_20) then carry_11_0 else false
    bif (decide (op_0_0 = [115, 104, 108])) then
     let t82_26 : Bool := decide (n_2_0 ≤ i_12_0)
     guardR t82_26 (some ()) () fun _ =>
     guardR t82_26 (some ()) () fun _ =>
     guardR t82_26 (some ()) () fun _ =>
     guardR t82_26 (some ()) () fun _ =>
     guardR t82_26 (some (minI n_2_0 i_12_0)) 0 fun v_27 =>
     guardR t82_26 (some (IntKind.i64.wrap (i_12_0 - v_27))) 0 fun v_28 =>
     guardR t82_26 (Option.map (fun _ => v_28) (ckI v_28 x_8_0.length)) 0 fun v_29 =>
     guardR t82_26 (rdI x_8_0 v_29) false fun v_30 =>
     bif (decide (op_0_0 = [115, 104, 114])) then
      let t99_34 : Bool := decide (n_2_0 < (IntKind.i64.wrap (w_9_0 - i_12_0)))
      guardR t99_34 (some ()) () fun _ =>
      guardR t99_34 (some ()) () fun _ =>
      guardR t99_34 (some ()) () fun _ =>
      guardR t99_34 (some ()) () fun _ =>
      guardR t99_34 (some (minI n_2_0 w_9_0)) 0 fun v_35 =>
      guardR t99_34 (some (IntKind.i64.wrap (i_12_0 + v_35))) 0 fun v_36 =>
      guardR t99_34 (some ()) () fun _ =>
      guardR t99_34 (some (IntKind.i64.wrap (w_9_0 - 1))) 0 fun v_37 =>
      guardR t99_34 (some (minI v_36 v_37)) 0 fun v_38 =>
      guardR t99_34 (Option.map (fun _ => v_38) (ckI v_38 x_8_0.length)) 0 fun v_39 =>
      guardR t99_34 (rdI x_8_0 v_39) false fun v_40 =>
      (roomI 1 out_10_0 [(bif t99_34 then v_40 else false)]).bind fun v_42 =>
      some (.inl ((op_0_0, n_2_0, x_8_0, w_9_0, v_42, t77_24, (IntKind.i64.wrap (i_12_0 + 1)), ()), (p6_0_0.1, p6_0_0.2.1, p6_0_0.2.2.1, ()), ()))
     else
     (roomI 1 out_10_0 [(bif t82_26 then v_30 else false)]).bind fun v_44 =>
     some (.inl ((op_0_0, n_2_0, x_8_0, w_9_0, v_44, t77_24, (IntKind.i64.wrap (i_12_0 + 1)), ()), (p6_0_0.1, p6_0_0.2.1, p6_0_0.2.2.1, ()), ()))
    else
    bif (decide (op_0_0 = [115, 104, 114])) then
     let t99_48 : Bool := decide (n_2_0 < (IntKind.i64.wrap (w_9_0 - i_12_0)))
     guardR t99_48 (some ()) () fun _ =>
     guardR t99_48 (some ()) () fun _ =>
     guardR t99_48 (some ()) () fun _ =>
     guardR t99_48 (some ()) () fun _ =>
     guardR t99_48 (some (minI n_2_0 w_9_0)) 0 fun v_49 =>
     guardR t99_48 (some (IntKind.i64.wrap (i_12_0 + v_49))) 0 fun v_50 =>
     guardR t99_48 (some ()) () fun _ =>
     guardR t99_48 (some (IntKind.i64.wrap (w_9_0 - 1))) 0 fun v_51 =>
     guardR t99_48 (some (minI v_50 v_51)) 0 fun v_52 =>
     guardR t99_48 (Option.map (fun _ => v_52) (ckI v_52 x_8_0.length)) 0 fun v_53 =>
     guardR t99_48 (rdI x_8_0 v_53) false fun v_54 =>
     (roomI 1 out_10_0 [(bif t99_48 then v_54 else false)]).bind fun v_56 =>
     some (.inl ((op_0_0, n_2_0, x_8_0, w_9_0, v_56, t77_24, (IntKind.i64.wrap (i_12_0 + 1)), ()), (p6_0_0.1, p6_0_0.2.1, p6_0_0.2.2.1, ()), ()))
    else
    (roomI 1 out_10_0 [(!(decide ((!(!t62_20)) = carry_11_0)))]).bind fun v_58 =>
    some (.inl ((op_0_0, n_2_0, x_8_0, w_9_0, v_58, t77_24, (IntKind.i64.wrap (i_12_0 + 1)), ()), (p6_0_0.1, p6_0_0.2.1, p6_0_0.2.2.1, ()), ()))
   else
   bif (decide (op_0_0 = [115, 104, 108])) then
    let t82_61 : Bool := decide (n_2_0 ≤ i_12_0)
    guardR t82_61 (some ()) () fun _ =>
    guardR t82_61 (some ()) () fun _ =>
    guardR t82_61 (some ()) () fun _ =>
    guardR t82_61 (some ()) () fun _ =>
    guardR t82_61 (some (minI n_2_0 i_12_0)) 0 fun v_62 =>
    guardR t82_61 (some (IntKind.i64.wrap (i_12_0 - v_62))) 0 fun v_63 =>
    guardR t82_61 (Option.map (fun _ => v_63) (ckI v_63 x_8_0.length)) 0 fun v_64 =>
    guardR t82_61 (rdI x_8_0 v_64) false fun v_65 =>
    bif (decide (op_0_0 = [115, 104, 114])) then
     let t99_69 : Bool := decide (n_2_0 < (IntKind.i64.wrap (w_9_0 - i_12_0)))
     guardR t99_69 (some ()) () fun _ =>
     guardR t99_69 (some ()) () fun _ =>
     guardR t99_69 (some ()) () fun _ =>
     guardR t99_69 (some ()) () fun _ =>
     guardR t99_69 (some (minI n_2_0 w_9_0)) 0 fun v_70 =>
     guardR t99_69 (some (IntKind.i64.wrap (i_12_0 + v_70))) 0 fun v_71 =>
     guardR t99_69 (some ()) () fun _ =>
     guardR t99_69 (some (IntKind.i64.wrap (w_9_0 - 1))) 0 fun v_72 =>
     guardR t99_69 (some (minI v_71 v_72)) 0 fun v_73 =>
     guardR t99_69 (Option.map (fun _ => v_73) (ckI v_73 x_8_0.length)) 0 fun v_74 =>
     guardR t99_69 (rdI x_8_0 v_74) false fun v_75 =>
     (roomI 1 out_10_0 [(bif t99_69 then v_75 else false)]).bind fun v_77 =>
     some (.inl ((op_0_0, n_2_0, x_8_0, w_9_0, v_77, carry_11_0, (IntKind.i64.wrap (i_12_0 + 1)), ()), (p6_0_0.1, p6_0_0.2.1, p6_0_0.2.2.1, ()), ()))
    else
    (roomI 1 out_10_0 [(bif t82_61 then v_65 else false)]).bind fun v_79 =>
    some (.inl ((op_0_0, n_2_0, x_8_0, w_9_0, v_79, carry_11_0, (IntKind.i64.wrap (i_12_0 + 1)), ()), (p6_0_0.1, p6_0_0.2.1, p6_0_0.2.2.1, ()), ()))
   else
   bif (decide (op_0_0 = [115, 104, 114])) then
    let t99_83 : Bool := decide (n_2_0 < (IntKind.i64.wrap (w_9_0 - i_12_0)))
    guardR t99_83 (some ()) () fun _ =>
    guardR t99_83 (some ()) () fun _ =>
    guardR t99_83 (some ()) () fun _ =>
    guardR t99_83 (some ()) () fun _ =>
    guardR t99_83 (some (minI n_2_0 w_9_0)) 0 fun v_84 =>
    guardR t99_83 (some (IntKind.i64.wrap (i_12_0 + v_84))) 0 fun v_85 =>
    guardR t99_83 (some ()) () fun _ =>
    guardR t99_83 (some (IntKind.i64.wrap (w_9_0 - 1))) 0 fun v_86 =>
    guardR t99_83 (some (minI v_85 v_86)) 0 fun v_87 =>
    guardR t99_83 (Option.map (fun _ => v_87) (ckI v_87 x_8_0.length)) 0 fun v_88 =>
    guardR t99_83 (rdI x_8_0 v_88) false fun v_89 =>
    (roomI 1 out_10_0 [(bif t99_83 then v_89 else false)]).bind fun v_91 =>
    some (.inl ((op_0_0, n_2_0, x_8_0, w_9_0, v_91, carry_11_0, (IntKind.i64.wrap (i_12_0 + 1)), ()), (p6_0_0.1, p6_0_0.2.1, p6_0_0.2.2.1, ()), ()))
   else
   (roomI 1 out_10_0 [!t62_20]).bind fun v_93 =>
   some (.inl ((op_0_0, n_2_0, x_8_0, w_9_0, v_93, carry_11_0, (IntKind.i64.wrap (i_12_0 + 1)), ()), (p6_0_0.1, p6_0_0.2.1, p6_0_0.2.2.1, ()), ()))
  else
  bif (decide (op_0_0 = [110, 101, 103])) then
   guardR (!t62_20) (some ()) () fun _ =>
   let t77_97 : Bool := bif !t62_20 then carry_11_0 else false
   bif (decide (op_0_0 = [115, 104, 108])) then
    let t82_99 : Bool := decide (n_2_0 ≤ i_12_0)
    guardR t82_99 (some ()) () fun _ =>
    guardR t82_99 (some ()) () fun _ =>
    guardR t82_99 (some ()) () fun _ =>
    guardR t82_99 (some ()) () fun _ =>
    guardR t82_99 (some (minI n_2_0 i_12_0)) 0 fun v_100 =>
    guardR t82_99 (some (IntKind.i64.wrap (i_12_0 - v_100))) 0 fun v_101 =>
    guardR t82_99 (Option.map (fun _ => v_101) (ckI v_101 x_8_0.length)) 0 fun v_102 =>
    guardR t82_99 (rdI x_8_0 v_102) false fun v_103 =>
    bif (decide (op_0_0 = [115, 104, 114])) then
     let t99_107 : Bool := decide (n_2_0 < (IntKind.i64.wrap (w_9_0 - i_12_0)))
     guardR t99_107 (some ()) () fun _ =>
     guardR t99_107 (some ()) () fun _ =>
     guardR t99_107 (some ()) () fun _ =>
     guardR t99_107 (some ()) () fun _ =>
     guardR t99_107 (some (minI n_2_0 w_9_0)) 0 fun v_108 =>
     guardR t99_107 (some (IntKind.i64.wrap (i_12_0 + v_108))) 0 fun v_109 =>
     guardR t99_107 (some ()) () fun _ =>
     guardR t99_107 (some (IntKind.i64.wrap (w_9_0 - 1))) 0 fun v_110 =>
     guardR t99_107 (some (minI v_109 v_110)) 0 fun v_111 =>
     guardR t99_107 (Option.map (fun _ => v_111) (ckI v_111 x_8_0.length)) 0 fun v_112 =>
     guardR t99_107 (rdI x_8_0 v_112) false fun v_113 =>
     (roomI 1 out_10_0 [(bif t99_107 then v_113 else false)]).bind fun v_115 =>
     some (.inl ((op_0_0, n_2_0, x_8_0, w_9_0, v_115, t77_97, (IntKind.i64.wrap (i_12_0 + 1)), ()), (p6_0_0.1, p6_0_0.2.1, p6_0_0.2.2.1, ()), ()))
    else
    (roomI 1 out_10_0 [(bif t82_99 then v_103 else false)]).bind fun v_117 =>
    some (.inl ((op_0_0, n_2_0, x_8_0, w_9_0, v_117, t77_97, (IntKind.i64.wrap (i_12_0 + 1)), ()), (p6_0_0.1, p6_0_0.2.1, p6_0_0.2.2.1, ()), ()))
   else
   bif (decide (op_0_0 = [115, 104, 114])) then
    let t99_121 : Bool := decide (n_2_0 < (IntKind.i64.wrap (w_9_0 - i_12_0)))
    guardR t99_121 (some ()) () fun _ =>
    guardR t99_121 (some ()) () fun _ =>
    guardR t99_121 (some ()) () fun _ =>
    guardR t99_121 (some ()) () fun _ =>
    guardR t99_121 (some (minI n_2_0 w_9_0)) 0 fun v_122 =>
    guardR t99_121 (some (IntKind.i64.wrap (i_12_0 + v_122))) 0 fun v_123 =>
    guardR t99_121 (some ()) () fun _ =>
    guardR t99_121 (some (IntKind.i64.wrap (w_9_0 - 1))) 0 fun v_124 =>
    guardR t99_121 (some (minI v_123 v_124)) 0 fun v_125 =>
    guardR t99_121 (Option.map (fun _ => v_125) (ckI v_125 x_8_0.length)) 0 fun v_126 =>
    guardR t99_121 (rdI x_8_0 v_126) false fun v_127 =>
    (roomI 1 out_10_0 [(bif t99_121 then v_127 else false)]).bind fun v_129 =>
    some (.inl ((op_0_0, n_2_0, x_8_0, w_9_0, v_129, t77_97, (IntKind.i64.wrap (i_12_0 + 1)), ()), (p6_0_0.1, p6_0_0.2.1, p6_0_0.2.2.1, ()), ()))
   else
   (roomI 1 out_10_0 [(!(decide ((!t62_20) = carry_11_0)))]).bind fun v_131 =>
   some (.inl ((op_0_0, n_2_0, x_8_0, w_9_0, v_131, t77_97, (IntKind.i64.wrap (i_12_0 + 1)), ()), (p6_0_0.1, p6_0_0.2.1, p6_0_0.2.2.1, ()), ()))
  else
  bif (decide (op_0_0 = [115, 104, 108])) then
   let t82_134 : Bool := decide (n_2_0 ≤ i_12_0)
   guardR t82_134 (some ()) () fun _ =>
   guardR t82_134 (some ()) () fun _ =>
   guardR t82_134 (some ()) () fun _ =>
   guardR t82_134 (some ()) () fun _ =>
   guardR t82_134 (some (minI n_2_0 i_12_0)) 0 fun v_135 =>
   guardR t82_134 (some (IntKind.i64.wrap (i_12_0 - v_135))) 0 fun v_136 =>
   guardR t82_134 (Option.map (fun _ => v_136) (ckI v_136 x_8_0.length)) 0 fun v_137 =>
   guardR t82_134 (rdI x_8_0 v_137) false fun v_138 =>
   bif (decide (op_0_0 = [115, 104, 114])) then
    let t99_142 : Bool := decide (n_2_0 < (IntKind.i64.wrap (w_9_0 - i_12_0)))
    guardR t99_142 (some ()) () fun _ =>
    guardR t99_142 (some ()) () fun _ =>
    guardR t99_142 (some ()) () fun _ =>
    guardR t99_142 (some ()) () fun _ =>
    guardR t99_142 (some (minI n_2_0 w_9_0)) 0 fun v_143 =>
    guardR t99_142 (some (IntKind.i64.wrap (i_12_0 + v_143))) 0 fun v_144 =>
    guardR t99_142 (some ()) () fun _ =>
    guardR t99_142 (some (IntKind.i64.wrap (w_9_0 - 1))) 0 fun v_145 =>
    guardR t99_142 (some (minI v_144 v_145)) 0 fun v_146 =>
    guardR t99_142 (Option.map (fun _ => v_146) (ckI v_146 x_8_0.length)) 0 fun v_147 =>
    guardR t99_142 (rdI x_8_0 v_147) false fun v_148 =>
    (roomI 1 out_10_0 [(bif t99_142 then v_148 else false)]).bind fun v_150 =>
    some (.inl ((op_0_0, n_2_0, x_8_0, w_9_0, v_150, carry_11_0, (IntKind.i64.wrap (i_12_0 + 1)), ()), (p6_0_0.1, p6_0_0.2.1, p6_0_0.2.2.1, ()), ()))
   else
   (roomI 1 out_10_0 [(bif t82_134 then v_138 else false)]).bind fun v_152 =>
   some (.inl ((op_0_0, n_2_0, x_8_0, w_9_0, v_152, carry_11_0, (IntKind.i64.wrap (i_12_0 + 1)), ()), (p6_0_0.1, p6_0_0.2.1, p6_0_0.2.2.1, ()), ()))
  else
  bif (decide (op_0_0 = [115, 104, 114])) then
   let t99_156 : Bool := decide (n_2_0 < (IntKind.i64.wrap (w_9_0 - i_12_0)))
   guardR t99_156 (some ()) () fun _ =>
   guardR t99_156 (some ()) () fun _ =>
   guardR t99_156 (some ()) () fun _ =>
   guardR t99_156 (some ()) () fun _ =>
   guardR t99_156 (some (minI n_2_0 w_9_0)) 0 fun v_157 =>
   guardR t99_156 (some (IntKind.i64.wrap (i_12_0 + v_157))) 0 fun v_158 =>
   guardR t99_156 (some ()) () fun _ =>
   guardR t99_156 (some (IntKind.i64.wrap (w_9_0 - 1))) 0 fun v_159 =>
   guardR t99_156 (some (minI v_158 v_159)) 0 fun v_160 =>
   guardR t99_156 (Option.map (fun _ => v_160) (ckI v_160 x_8_0.length)) 0 fun v_161 =>
   guardR t99_156 (rdI x_8_0 v_161) false fun v_162 =>
   (roomI 1 out_10_0 [(bif t99_156 then v_162 else false)]).bind fun v_164 =>
   some (.inl ((op_0_0, n_2_0, x_8_0, w_9_0, v_164, carry_11_0, (IntKind.i64.wrap (i_12_0 + 1)), ()), (p6_0_0.1, p6_0_0.2.1, p6_0_0.2.2.1, ()), ()))
  else
  (roomI 1 out_10_0 [t62_20]).bind fun v_166 =>
  some (.inl ((op_0_0, n_2_0, x_8_0, w_9_0, v_166, carry_11_0, (IntKind.i64.wrap (i_12_0 + 1)), ()), (p6_0_0.1, p6_0_0.2.1, p6_0_0.2.2.1, ()), ()))
 else
 ((ref02_Of out_10_0).bind fun r_168 =>
 some ((r_168.1.1, 0, ()), ())).map .inr
end Go.L

namespace Go.L
open Go Go.Pv
set_option maxRecDepth 100000

noncomputable def exact_New_s0 (most_0_0 : Int) (size_3_0 : Int) : Option (((Int × Int × Unit) × (Unit)) ⊕ (((Unit × Unit) × (Unit)) ⊕ ((((List (Bool × ((Int × Int × Int × Unit) × Int × Unit) × Unit)) × Int × Int × Unit) × Unit) × (Unit)))) :=
 bif (decide (size_3_0 < (IntKind.i64.wrap (2 * most_0_0)))) then
  some (.inl ((most_0_0, (IntKind.i64.wrap (size_3_0 * 2)), ()), ()))
 else
 ((mkI 40 size_3_0 size_3_0 (false, ((0, 0, 0, ()), 0, ()), ())).bind fun v_7 =>
 some (.inr (((v_7, 0, most_0_0, ()), ()), ()))).map .inr
noncomputable def exact_New (most_0 : Int) : Option (((Unit × Unit) × (Unit)) ⊕ ((((List (Bool × ((Int × Int × Int × Unit) × Int × Unit) × Unit)) × Int × Int × Unit) × Unit) × (Unit))) :=
 let t5_1 : Bool := decide (most_0 < 1)
 guardR (!t5_1) (some ()) () fun _ =>
 guardR (!t5_1) (some (decide (most_0 > 256))) false fun v_2 =>
 bif (bif t5_1 then true else v_2) then
  some (.inl (((), ()), ()))
 else
 loopR (fun (z : (Int × Int × Unit) × (Unit)) => exact_New_s0 z.1.1 z.1.2.1) ((most_0, 2, ()), ())

noncomputable def exact_Map_may_ca4 (m_0 : (List (Bool × ((Int × Int × Int × Unit) × Int × Unit) × Unit)) × Int × Int × Unit) (key_1 : Int × Int × Int × Unit) : Option ((Bool × Unit) × (((List (Bool × ((Int × Int × Int × Unit) × Int × Unit) × Unit)) × Int × Int × Unit) × Unit)) :=
 (vec_May (key_1.1, key_1.2.1, key_1.2.2.1, ())).bind fun r_1 =>
 some ((r_1.1.1, ()), (m_0.1, m_0.2.1, m_0.2.2.1, ()), ())

noncomputable def exact_Map_home_ca4_s0 (h_5_0 : Int) (t15_15_0 : List Int) (t16_16_0 : Int) (o0_0 : (List (Bool × ((Int × Int × Int × Unit) × Int × Unit) × Unit)) × Int × Int × Unit) : Option (((Int × (List Int) × Int × Unit) × (((List (Bool × ((Int × Int × Int × Unit) × Int × Unit) × Unit)) × Int × Int × Unit) × Unit)) ⊕ ((Int × Unit) × (((List (Bool × ((Int × Int × Int × Unit) × Int × Unit) × Unit)) × Int × Int × Unit) × Unit))) :=
 bif (decide (t16_16_0 < 3)) then
  (rdI t15_15_0 t16_16_0).bind fun v_3 =>
  let t22_5 : Int := IntKind.u64.wrap ((bitsI .xor .u64 h_5_0 v_3) * 1099511628211)
  some (.inl (((bitsI .xor .u64 t22_5 (t22_5.fdiv (2 ^ 32))), t15_15_0, (IntKind.i64.wrap (t16_16_0 + 1)), ()), (o0_0.1, o0_0.2.1, o0_0.2.2.1, ()), ()))
 else
 ((remI h_5_0 (IntKind.u64.wrap (o0_0.1.length : Int))).bind fun v_11 =>
 some (((IntKind.i64.wrap v_11), ()), (o0_0.1, o0_0.2.1, o0_0.2.2.1, ()), ())).map .inr
noncomputable def exact_Map_home_ca4 (m_0 : (List (Bool × ((Int × Int × Int × Unit) × Int × Unit) × Unit)) × Int × Int × Unit) (key_1 : Int × Int × Int × Unit) : Option ((Int × Unit) × (((List (Bool × ((Int × Int × Int × Unit) × Int × Unit) × Unit)) × Int × Int × Unit) × Unit)) :=
 loopR (fun (z : (Int × (List Int) × Int × Unit) × (((List (Bool × ((Int × Int × Int × Unit) × Int × Unit) × Unit)) × Int × Int × Unit) × Unit)) => exact_Map_home_ca4_s0 z.1.1 z.1.2.1 z.1.2.2.1 z.2.1) ((14695981039346656037, [(IntKind.u64.wrap key_1.1), key_1.2.1, key_1.2.2.1], 0, ()), (m_0.1, m_0.2.1, m_0.2.2.1, ()), ())

noncomputable def exact_Map_next_deb (m_0 : (List (Bool × ((Int × Int × Int × Unit) × Int × Unit) × Unit)) × Int × Int × Unit) (i_1 : Int) : Option ((Int × Unit) × (((List (Bool × ((Int × Int × Int × Unit) × Int × Unit) × Unit)) × Int × Int × Unit) × Unit)) :=
 (remI (IntKind.i64.wrap (i_1 + 1)) (m_0.1.length : Int)).bind fun v_3 =>
 some ((v_3, ()), (m_0.1, m_0.2.1, m_0.2.2.1, ()), ())

noncomputable def exact_Map_find_ca4_s0 (i_6_0 : Int) (p3_0_0 : Int × Int × Int × Unit) (o0_0 : (List (Bool × ((Int × Int × Int × Unit) × Int × Unit) × Unit)) × Int × Int × Unit) : Option (((Int × Unit) × ((Int × Int × Int × Unit) × ((List (Bool × ((Int × Int × Int × Unit) × Int × Unit) × Unit)) × Int × Int × Unit) × Unit)) ⊕ ((Int × Bool × Unit) × (((List (Bool × ((Int × Int × Int × Unit) × Int × Unit) × Unit)) × Int × Int × Unit) × Unit))) :=
 (Option.map (fun _ => i_6_0) (ckI i_6_0 o0_0.1.length)).bind fun v_2 =>
 ((rdI o0_0.1 v_2).map (·.1)).bind fun v_3 =>
 bif v_3 then
  (Option.map (fun _ => i_6_0) (ckI i_6_0 o0_0.1.length)).bind fun v_4 =>
  ((((rdI o0_0.1 v_4).map (·.2)).map (·.1)).map (·.1)).bind fun v_5 =>
  bif (decide (v_5.1 = p3_0_0.1) && (decide (v_5.2.1 = p3_0_0.2.1) && decide (v_5.2.2.1 = p3_0_0.2.2.1))) then
   some (.inr ((i_6_0, true, ()), (o0_0.1, o0_0.2.1, o0_0.2.2.1, ()), ()))
  else
  (exact_Map_next_deb (o0_0.1, o0_0.2.1, o0_0.2.2.1, ()) i_6_0).bind fun r_7 =>
  some (.inl ((r_7.1.1, ()), (p3_0_0.1, p3_0_0.2.1, p3_0_0.2.2.1, ()), r_7.2.1, ()))
 else
 some (.inr ((i_6_0, false, ()), (o0_0.1, o0_0.2.1, o0_0.2.2.1, ()), ()))
noncomputable def exact_Map_find_ca4 (m_0 : (List (Bool × ((Int × Int × Int × Unit) × Int × Unit) × Unit)) × Int × Int × Unit) (key_1 : Int × Int × Int × Unit) : Option ((Int × Bool × Unit) × (((List (Bool × ((Int × Int × Int × Unit) × Int × Unit) × Unit)) × Int × Int × Unit) × Unit)) :=
 (exact_Map_home_ca4 (m_0.1, m_0.2.1, m_0.2.2.1, ()) (key_1.1, key_1.2.1, key_1.2.2.1, ())).bind fun r_1 =>
 loopR (fun (z : (Int × Unit) × ((Int × Int × Int × Unit) × ((List (Bool × ((Int × Int × Int × Unit) × Int × Unit) × Unit)) × Int × Int × Unit) × Unit)) => exact_Map_find_ca4_s0 z.1.1 z.2.1 z.2.2.1) ((r_1.1.1, ()), (key_1.1, key_1.2.1, key_1.2.2.1, ()), r_1.2.1, ())

noncomputable def exact_Map_Put_767 (m_0 : (List (Bool × ((Int × Int × Int × Unit) × Int × Unit) × Unit)) × Int × Int × Unit) (key_1 : Int × Int × Int × Unit) (n_2 : Int) : Option ((Int × Unit) × (((List (Bool × ((Int × Int × Int × Unit) × Int × Unit) × Unit)) × Int × Int × Unit) × Unit)) :=
 (exact_Map_may_ca4 (m_0.1, m_0.2.1, m_0.2.2.1, ()) (key_1.1, key_1.2.1, key_1.2.2.1, ())).bind fun r_1 =>
 bif !r_1.1.1 then
  some ((1, ()), r_1.2.1, ())
 else
 (exact_Map_find_ca4 r_1.2.1 (key_1.1, key_1.2.1, key_1.2.2.1, ())).bind fun r_2 =>
 bif r_2.1.2.1 then
  some ((6, ()), r_2.2.1, ())
 else
 bif (decide (r_2.2.1.2.1 = r_2.2.1.2.2.1)) then
  some ((8, ()), r_2.2.1, ())
 else
 (Option.map (fun _ => r_2.1.1) (ckI r_2.1.1 r_2.2.1.1.length)).bind fun v_4 =>
 ((stI r_2.2.1.1 v_4 (true, ((key_1.1, key_1.2.1, key_1.2.2.1, ()), n_2, ()), ())).map fun w => (w, r_2.2.1.2)).bind fun v_5 =>
 some ((0, ()), (v_5.1, (IntKind.i64.wrap (v_5.2.1 + 1)), v_5.2.2), ())

noncomputable def exact_Map_Get_ca4 (m_0 : (List (Bool × ((Int × Int × Int × Unit) × Int × Unit) × Unit)) × Int × Int × Unit) (key_1 : Int × Int × Int × Unit) : Option ((Int × Bool × Unit) × (((List (Bool × ((Int × Int × Int × Unit) × Int × Unit) × Unit)) × Int × Int × Unit) × Unit)) :=
 (exact_Map_may_ca4 (m_0.1, m_0.2.1, m_0.2.2.1, ()) (key_1.1, key_1.2.1, key_1.2.2.1, ())).bind fun r_1 =>
 bif !r_1.1.1 then
  some ((0, false, ()), r_1.2.1, ())
 else
 (exact_Map_find_ca4 r_1.2.1 (key_1.1, key_1.2.1, key_1.2.2.1, ())).bind fun r_2 =>
 (Option.map (fun _ => r_2.1.1) (ckI r_2.1.1 r_2.2.1.1.length)).bind fun v_3 =>
 (((((rdI r_2.2.1.1 v_3).map (·.2)).map (·.1)).map (·.2)).map (·.1)).bind fun v_4 =>
 some ((v_4, r_2.1.2.1, ()), r_2.2.1, ())

noncomputable def exact_Map_Set_767 (m_0 : (List (Bool × ((Int × Int × Int × Unit) × Int × Unit) × Unit)) × Int × Int × Unit) (key_1 : Int × Int × Int × Unit) (n_2 : Int) : Option ((Int × Unit) × (((List (Bool × ((Int × Int × Int × Unit) × Int × Unit) × Unit)) × Int × Int × Unit) × Unit)) :=
 (exact_Map_may_ca4 (m_0.1, m_0.2.1, m_0.2.2.1, ()) (key_1.1, key_1.2.1, key_1.2.2.1, ())).bind fun r_1 =>
 bif !r_1.1.1 then
  some ((1, ()), r_1.2.1, ())
 else
 (exact_Map_find_ca4 r_1.2.1 (key_1.1, key_1.2.1, key_1.2.2.1, ())).bind fun r_2 =>
 bif !r_2.1.2.1 then
  some ((5, ()), r_2.2.1, ())
 else
 (Option.map (fun _ => r_2.1.1) (ckI r_2.1.1 r_2.2.1.1.length)).bind fun v_3 =>
 ((((rdI r_2.2.1.1 v_3).bind fun v => (((rdI r_2.2.1.1 v_3).map (·.2)).bind fun v => ((((rdI r_2.2.1.1 v_3).map (·.2)).map (·.1)).bind fun v => (((((rdI r_2.2.1.1 v_3).map (·.2)).map (·.1)).map (·.2)).map fun v => (n_2, v.2)).map fun w => (v.1, w)).map fun w => (w, v.2)).map fun w => (v.1, w)).bind fun v => stI r_2.2.1.1 v_3 v).map fun w => (w, r_2.2.1.2)).bind fun v_4 =>
 some ((0, ()), v_4, ())

noncomputable def exact_between (i_0 : Int) (from_1 : Int) (to_2 : Int) : Option ((Bool × Unit) × (Unit)) :=
 bif (decide (from_1 ≤ to_2)) then
  let t12_2 : Bool := decide (i_0 > from_1)
  guardR t12_2 (some ()) () fun _ =>
  guardR t12_2 (some ()) () fun _ =>
  guardR t12_2 (some (decide (i_0 ≤ to_2))) false fun v_3 =>
  some (((bif t12_2 then v_3 else false), ()), ())
 else
 let t20_5 : Bool := decide (i_0 > from_1)
 guardR (!t20_5) (some ()) () fun _ =>
 guardR (!t20_5) (some ()) () fun _ =>
 guardR (!t20_5) (some (decide (i_0 ≤ to_2))) false fun v_6 =>
 some (((bif t20_5 then true else v_6), ()), ())

noncomputable def exact_Map_close_deb_s0 (gap_1_0 : Int) (i_4_0 : Int) (o0_0 : (List (Bool × ((Int × Int × Int × Unit) × Int × Unit) × Unit)) × Int × Int × Unit) : Option (((Int × Int × Unit) × (((List (Bool × ((Int × Int × Int × Unit) × Int × Unit) × Unit)) × Int × Int × Unit) × Unit)) ⊕ ((Unit) × (((List (Bool × ((Int × Int × Int × Unit) × Int × Unit) × Unit)) × Int × Int × Unit) × Unit))) :=
 (Option.map (fun _ => i_4_0) (ckI i_4_0 o0_0.1.length)).bind fun v_2 =>
 ((rdI o0_0.1 v_2).map (·.1)).bind fun v_3 =>
 bif v_3 then
  (Option.map (fun _ => i_4_0) (ckI i_4_0 o0_0.1.length)).bind fun v_4 =>
  ((((rdI o0_0.1 v_4).map (·.2)).map (·.1)).map (·.1)).bind fun v_5 =>
  (exact_Map_home_ca4 (o0_0.1, o0_0.2.1, o0_0.2.2.1, ()) v_5).bind fun r_6 =>
  (exact_between r_6.1.1 gap_1_0 i_4_0).bind fun r_7 =>
  bif r_7.1.1 then
   (exact_Map_next_deb r_6.2.1 i_4_0).bind fun r_8 =>
   some (.inl ((gap_1_0, r_8.1.1, ()), r_8.2.1, ()))
  else
  (Option.map (fun _ => i_4_0) (ckI i_4_0 r_6.2.1.1.length)).bind fun v_9 =>
  (rdI r_6.2.1.1 v_9).bind fun v_10 =>
  (Option.map (fun _ => gap_1_0) (ckI gap_1_0 r_6.2.1.1.length)).bind fun v_11 =>
  ((stI r_6.2.1.1 v_11 v_10).map fun w => (w, r_6.2.1.2)).bind fun v_12 =>
  (Option.map (fun _ => i_4_0) (ckI i_4_0 v_12.1.length)).bind fun v_13 =>
  ((stI v_12.1 v_13 (false, ((0, 0, 0, ()), 0, ()), ())).map fun w => (w, v_12.2)).bind fun v_14 =>
  (exact_Map_next_deb v_14 i_4_0).bind fun r_15 =>
  some (.inl ((i_4_0, r_15.1.1, ()), r_15.2.1, ()))
 else
 some (.inr ((), (o0_0.1, o0_0.2.1, o0_0.2.2.1, ()), ()))
noncomputable def exact_Map_close_deb (m_0 : (List (Bool × ((Int × Int × Int × Unit) × Int × Unit) × Unit)) × Int × Int × Unit) (gap_1 : Int) : Option ((Unit) × (((List (Bool × ((Int × Int × Int × Unit) × Int × Unit) × Unit)) × Int × Int × Unit) × Unit)) :=
 (exact_Map_next_deb (m_0.1, m_0.2.1, m_0.2.2.1, ()) gap_1).bind fun r_1 =>
 loopR (fun (z : (Int × Int × Unit) × (((List (Bool × ((Int × Int × Int × Unit) × Int × Unit) × Unit)) × Int × Int × Unit) × Unit)) => exact_Map_close_deb_s0 z.1.1 z.1.2.1 z.2.1) ((gap_1, r_1.1.1, ()), r_1.2.1, ())

noncomputable def exact_Map_Drop_ca4 (m_0 : (List (Bool × ((Int × Int × Int × Unit) × Int × Unit) × Unit)) × Int × Int × Unit) (key_1 : Int × Int × Int × Unit) : Option ((Int × Unit) × (((List (Bool × ((Int × Int × Int × Unit) × Int × Unit) × Unit)) × Int × Int × Unit) × Unit)) :=
 (exact_Map_may_ca4 (m_0.1, m_0.2.1, m_0.2.2.1, ()) (key_1.1, key_1.2.1, key_1.2.2.1, ())).bind fun r_1 =>
 bif !r_1.1.1 then
  some ((1, ()), r_1.2.1, ())
 else
 (exact_Map_find_ca4 r_1.2.1 (key_1.1, key_1.2.1, key_1.2.2.1, ())).bind fun r_2 =>
 bif !r_2.1.2.1 then
  some ((5, ()), r_2.2.1, ())
 else
 (Option.map (fun _ => r_2.1.1) (ckI r_2.1.1 r_2.2.1.1.length)).bind fun v_3 =>
 ((stI r_2.2.1.1 v_3 (false, ((0, 0, 0, ()), 0, ()), ())).map fun w => (w, r_2.2.1.2)).bind fun v_4 =>
 (exact_Map_close_deb (v_4.1, (IntKind.i64.wrap (v_4.2.1 - 1)), v_4.2.2) r_2.1.1).bind fun r_6 =>
 some ((0, ()), r_6.2.1, ())

noncomputable def ref19_Find_s0 (l_0_0 : List ((Int × Int × Int × Unit) × Int × Unit)) (i_5_0 : Int) (p3_0_0 : Int × Int × Int × Unit) : Option ((((List ((Int × Int × Int × Unit) × Int × Unit)) × Int × Unit) × ((Int × Int × Int × Unit) × Unit)) ⊕ ((Int × Unit) × (Unit))) :=
 bif (decide (i_5_0 < (l_0_0.length : Int))) then
  (rdI l_0_0 i_5_0).bind fun v_3 =>
  bif (decide (v_3.1.1 = p3_0_0.1) && (decide (v_3.1.2.1 = p3_0_0.2.1) && decide (v_3.1.2.2.1 = p3_0_0.2.2.1))) then
   some (.inr ((i_5_0, ()), ()))
  else
  some (.inl ((l_0_0, (IntKind.i64.wrap (i_5_0 + 1)), ()), (p3_0_0.1, p3_0_0.2.1, p3_0_0.2.2.1, ()), ()))
 else
 some (.inr (((-1), ()), ()))
noncomputable def ref19_Find (l_0 : List ((Int × Int × Int × Unit) × Int × Unit)) (key_1 : Int × Int × Int × Unit) : Option ((Int × Unit) × (Unit)) :=
 loopR (fun (z : ((List ((Int × Int × Int × Unit) × Int × Unit)) × Int × Unit) × ((Int × Int × Int × Unit) × Unit)) => ref19_Find_s0 z.1.1 z.1.2.1 z.2.1) ((l_0, 0, ()), (key_1.1, key_1.2.1, key_1.2.2.1, ()), ())

noncomputable def ref19_Put (l_0 : List ((Int × Int × Int × Unit) × Int × Unit)) (most_1 : Int) (key_2 : Int × Int × Int × Unit) (n_3 : Int) : Option (((List ((Int × Int × Int × Unit) × Int × Unit)) × Int × Unit) × (Unit)) :=
 (ref02_May (key_2.1, key_2.2.1, key_2.2.2.1, ())).bind fun r_1 =>
 bif !r_1.1.1 then
  some ((l_0, 1, ()), ())
 else
 (ref19_Find l_0 (key_2.1, key_2.2.1, key_2.2.2.1, ())).bind fun r_2 =>
 bif (decide (r_2.1.1 ≥ 0)) then
  some ((l_0, 6, ()), ())
 else
 bif (decide ((l_0.length : Int) ≥ most_1)) then
  some ((l_0, 8, ()), ())
 else
 (roomI 32 ([] : List ((Int × Int × Int × Unit) × Int × Unit)) l_0).bind fun v_6 =>
 (roomI 32 v_6 [((key_2.1, key_2.2.1, key_2.2.2.1, ()), n_3, ())]).bind fun v_7 =>
 some ((v_7, 0, ()), ())

noncomputable def ref19_Set (l_0 : List ((Int × Int × Int × Unit) × Int × Unit)) (key_1 : Int × Int × Int × Unit) (n_2 : Int) : Option (((List ((Int × Int × Int × Unit) × Int × Unit)) × Int × Unit) × (Unit)) :=
 (ref02_May (key_1.1, key_1.2.1, key_1.2.2.1, ())).bind fun r_1 =>
 bif !r_1.1.1 then
  some ((l_0, 1, ()), ())
 else
 (ref19_Find l_0 (key_1.1, key_1.2.1, key_1.2.2.1, ())).bind fun r_2 =>
 bif (decide (r_2.1.1 < 0)) then
  some ((l_0, 5, ()), ())
 else
 (roomI 32 ([] : List ((Int × Int × Int × Unit) × Int × Unit)) l_0).bind fun v_4 =>
 (Option.map (fun _ => r_2.1.1) (ckI r_2.1.1 v_4.length)).bind fun v_5 =>
 (((rdI v_4 v_5).bind fun v => (((rdI v_4 v_5).map (·.2)).map fun v => (n_2, v.2)).map fun w => (v.1, w)).bind fun v => stI v_4 v_5 v).bind fun v_6 =>
 some ((v_6, 0, ()), ())

noncomputable def ref19_Drop (l_0 : List ((Int × Int × Int × Unit) × Int × Unit)) (key_1 : Int × Int × Int × Unit) : Option (((List ((Int × Int × Int × Unit) × Int × Unit)) × Int × Unit) × (Unit)) :=
 (ref02_May (key_1.1, key_1.2.1, key_1.2.2.1, ())).bind fun r_1 =>
 bif !r_1.1.1 then
  some ((l_0, 1, ()), ())
 else
 (ref19_Find l_0 (key_1.1, key_1.2.1, key_1.2.2.1, ())).bind fun r_2 =>
 bif (decide (r_2.1.1 < 0)) then
  some ((l_0, 5, ()), ())
 else
 (subL l_0 0 r_2.1.1).bind fun v_4 =>
 (roomI 32 ([] : List ((Int × Int × Int × Unit) × Int × Unit)) v_4).bind fun v_5 =>
 (subL l_0 (IntKind.i64.wrap (r_2.1.1 + 1)) (l_0.length : Int)).bind fun v_7 =>
 (roomI 32 v_5 v_7).bind fun v_8 =>
 some ((v_8, 0, ()), ())

noncomputable def exact_Map_Len_bb9 (m_0 : (List (Bool × ((Int × Int × Int × Unit) × Int × Unit) × Unit)) × Int × Int × Unit) : Option ((Int × Unit) × (((List (Bool × ((Int × Int × Int × Unit) × Int × Unit) × Unit)) × Int × Int × Unit) × Unit)) :=
 some ((m_0.2.1, ()), (m_0.1, m_0.2.1, m_0.2.2.1, ()), ())

noncomputable def exact_Map_Room_bb9 (m_0 : (List (Bool × ((Int × Int × Int × Unit) × Int × Unit) × Unit)) × Int × Int × Unit) : Option ((Int × Unit) × (((List (Bool × ((Int × Int × Int × Unit) × Int × Unit) × Unit)) × Int × Int × Unit) × Unit)) :=
 some (((IntKind.i64.wrap (m_0.2.2.1 - m_0.2.1)), ()), (m_0.1, m_0.2.1, m_0.2.2.1, ()), ())

noncomputable def exact_Map_may_052 (m_0 : Unit) (key_1 : Int × Int × Int × Unit) : Option ((Bool × Unit) × (Unit)) :=
 guardR false (vec_May (0, 0, 0, ())) ((false, ()), ()) fun r_1 =>
 some ((false, ()), ())

noncomputable def exact_Map_Put_01a (m_0 : Unit) (key_1 : Int × Int × Int × Unit) (n_2 : Int) : Option ((Int × Unit) × (Unit)) :=
 (exact_Map_may_052 m_0 (key_1.1, key_1.2.1, key_1.2.2.1, ())).bind fun r_1 =>
 bif !r_1.1.1 then
  some ((1, ()), ())
 else
 none

noncomputable def exact_Map_Get_052 (m_0 : Unit) (key_1 : Int × Int × Int × Unit) : Option ((Int × Bool × Unit) × (Unit)) :=
 (exact_Map_may_052 m_0 (key_1.1, key_1.2.1, key_1.2.2.1, ())).bind fun r_1 =>
 bif !r_1.1.1 then
  some ((0, false, ()), ())
 else
 none

noncomputable def exact_Map_Set_01a (m_0 : Unit) (key_1 : Int × Int × Int × Unit) (n_2 : Int) : Option ((Int × Unit) × (Unit)) :=
 (exact_Map_may_052 m_0 (key_1.1, key_1.2.1, key_1.2.2.1, ())).bind fun r_1 =>
 bif !r_1.1.1 then
  some ((1, ()), ())
 else
 none

noncomputable def exact_Map_Drop_052 (m_0 : Unit) (key_1 : Int × Int × Int × Unit) : Option ((Int × Unit) × (Unit)) :=
 (exact_Map_may_052 m_0 (key_1.1, key_1.2.1, key_1.2.2.1, ())).bind fun r_1 =>
 bif !r_1.1.1 then
  some ((1, ()), ())
 else
 none

noncomputable def exact_Map_Len_d35 (m_0 : Unit) : Option ((Int × Unit) × (Unit)) :=
 some ((0, ()), ())

noncomputable def exact_Map_Room_d35 (m_0 : Unit) : Option ((Int × Unit) × (Unit)) :=
 some ((0, ()), ())

noncomputable def exact_Map_List_1 (a_0 : (Int × Int × Int × Unit) × Int × Unit) (b_1 : (Int × Int × Int × Unit) × Int × Unit) : Option ((Int × Unit) × (Unit)) :=
 (cmp_Compare_int a_0.1.1 b_1.1.1).bind fun r_1 =>
 (vec_Word (a_0.1.1, a_0.1.2.1, a_0.1.2.2.1, ())).bind fun r_2 =>
 (vec_Word (b_1.1.1, b_1.1.2.1, b_1.1.2.2.1, ())).bind fun r_3 =>
 (word_Cmp r_2.1.1 r_3.1.1).bind fun r_4 =>
 (cmp_Or_int [r_1.1.1, r_4.1.1]).bind fun r_5 =>
 some ((r_5.1.1, ()), ())

noncomputable def exact_Map_List_bb9_s0 (l_3_0 : List ((Int × Int × Int × Unit) × Int × Unit)) (t13_13_0 : Int) (t14_14_0 : Int) (o0_0 : (List (Bool × ((Int × Int × Int × Unit) × Int × Unit) × Unit)) × Int × Int × Unit) : Option ((((List ((Int × Int × Int × Unit) × Int × Unit)) × Int × Int × Unit) × (((List (Bool × ((Int × Int × Int × Unit) × Int × Unit) × Unit)) × Int × Int × Unit) × Unit)) ⊕ (((List ((Int × Int × Int × Unit) × Int × Unit)) × Unit) × (((List (Bool × ((Int × Int × Int × Unit) × Int × Unit) × Unit)) × Int × Int × Unit) × Unit))) :=
 bif (decide (t14_14_0 < t13_13_0)) then
  (Option.map (fun _ => t14_14_0) (ckI t14_14_0 o0_0.1.length)).bind fun v_3 =>
  (rdI o0_0.1 v_3).bind fun v_4 =>
  bif v_4.1 then
   (roomI 32 l_3_0 [v_4.2.1]).bind fun v_5 =>
   some (.inl ((v_5, t13_13_0, (IntKind.i64.wrap (t14_14_0 + 1)), ()), (o0_0.1, o0_0.2.1, o0_0.2.2.1, ()), ()))
  else
  some (.inl ((l_3_0, t13_13_0, (IntKind.i64.wrap (t14_14_0 + 1)), ()), (o0_0.1, o0_0.2.1, o0_0.2.2.1, ()), ()))
 else
 ((sortF (.agg (.pair (.agg (.pair (.int .i64) (.pair (.int .u64) (.pair (.int .u64) .unit)))) (.pair (.int .i64) .unit))) (fun x => exact_Map_List_1 x.1 x.2.1) l_3_0).bind fun v_8 =>
 some ((v_8, ()), (o0_0.1, o0_0.2.1, o0_0.2.2.1, ()), ())).map .inr
noncomputable def exact_Map_List_bb9 (m_0 : (List (Bool × ((Int × Int × Int × Unit) × Int × Unit) × Unit)) × Int × Int × Unit) : Option (((List ((Int × Int × Int × Unit) × Int × Unit)) × Unit) × (((List (Bool × ((Int × Int × Int × Unit) × Int × Unit) × Unit)) × Int × Int × Unit) × Unit)) :=
 loopR (fun (z : ((List ((Int × Int × Int × Unit) × Int × Unit)) × Int × Int × Unit) × (((List (Bool × ((Int × Int × Int × Unit) × Int × Unit) × Unit)) × Int × Int × Unit) × Unit)) => exact_Map_List_bb9_s0 z.1.1 z.1.2.1 z.1.2.2.1 z.2.1) (([], (m_0.1.length : Int), 0, ()), (m_0.1, m_0.2.1, m_0.2.2.1, ()), ())

noncomputable def exact_Map_List_d35 (m_0 : Unit) : Option ((Unit × Unit) × (Unit)) :=
 some (((), ()), ())

noncomputable def ref19_Less (a_0 : Int × Int × Int × Unit) (b_1 : Int × Int × Int × Unit) : Option ((Bool × Unit) × (Unit)) :=
 bif (!decide (a_0.1 = b_1.1)) then
  some (((decide (a_0.1 < b_1.1)), ()), ())
 else
 (ref02_Two [108, 101, 115, 115] (a_0.1, a_0.2.1, a_0.2.2.1, ()) (b_1.1, b_1.2.1, b_1.2.2.1, ())).bind fun r_3 =>
 some (((decide (r_3.1.1.2.2.1 = 1)), ()), ())

noncomputable def slices_Clone_exact_slot_exact_slot (s_0 : List (Bool × ((Int × Int × Int × Unit) × Int × Unit) × Unit)) : Option (((List (Bool × ((Int × Int × Int × Unit) × Int × Unit) × Unit)) × Unit) × (Unit)) :=
 bif s_0.isEmpty then
  amb (some (([], ()), ()))
  ((roomI 40 ([] : List (Bool × ((Int × Int × Int × Unit) × Int × Unit) × Unit)) s_0).bind fun v_1 =>
   some ((v_1, ()), ()))
 else
 (roomI 40 ([] : List (Bool × ((Int × Int × Int × Unit) × Int × Unit) × Unit)) s_0).bind fun v_2 =>
 some ((v_2, ()), ())

noncomputable def exact_Map_Copy_d35 (m_0 : Unit) : Option ((Unit × Unit) × (Unit)) :=
 some (((), ()), ())

noncomputable def exact_Map_Copy_bb9 (m_0 : (List (Bool × ((Int × Int × Int × Unit) × Int × Unit) × Unit)) × Int × Int × Unit) : Option ((((List (Bool × ((Int × Int × Int × Unit) × Int × Unit) × Unit)) × Int × Int × Unit) × Unit) × (((List (Bool × ((Int × Int × Int × Unit) × Int × Unit) × Unit)) × Int × Int × Unit) × Unit)) :=
 (slices_Clone_exact_slot_exact_slot m_0.1).bind fun r_1 =>
 some (((r_1.1.1, m_0.2.1, m_0.2.2.1, ()), ()), (m_0.1, m_0.2.1, m_0.2.2.1, ()), ())

end Go.L
