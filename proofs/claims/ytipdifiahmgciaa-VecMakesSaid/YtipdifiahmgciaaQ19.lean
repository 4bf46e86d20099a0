/- The functions of this seat, and the laws as plain Lean. -/
import Derived.Test.YtipdifiahmgciaaQ18

namespace Go.Proofs.Ytipdifiahmgciaa
open Go Go.Pv Go.Proofs Go.L
set_option maxRecDepth 100000

theorem both_ok {w : Int} {x y : Nat} (hx : may w x = true) (hy : may w y = true) (r) : both w w x y r = r := by
  unfold both
  rw [hx, hy, decide_eq_true rfl]
  rfl

/-- the second half of VecBack -/
theorem back_half {W x y : Nat} {u : Int} (hm : may (W : Int) x = true) (hy : y < 340282366920938463463374607431768211456) :
  ((vec_Add (vw (W : Int) x) (vw u y)).bind fun r_86 : ((Int × Int × Int × Unit) × Int × Unit) × Unit =>
  bif (!decide (r_86.1.2.1 = 0)) then
    (vec_May (vw u y)).bind fun r_89 =>
    let t155_90 : Bool := decide ((decide (r_86.1.2.1 = 1)) = (!r_89.1.1))
    guardR t155_90 law02_lives ((false, ()), ()) fun r_91 =>
    some (((bif t155_90 then r_91.1.1 else false), ()), ())
  else
  (vec_Sub r_86.1.1 (vw u y)).bind fun r_93 =>
  (vec_AddSat (vw (W : Int) x) (vw u y)).bind fun r_94 =>
  (vec_Less r_86.1.1 (vw (W : Int) x)).bind fun r_95 =>
  (vec_Word r_94.1.1).bind fun r_96 =>
  (vec_Word r_86.1.1).bind fun r_97 =>
  let t183_99 : Bool := decide (r_93.1.2.1 = 0)
  guardR t183_99 (some r_93.1.1) (0, 0, 0, ()) fun v_100 =>
  guardR t183_99 (some (vw (W : Int) x)) (0, 0, 0, ()) fun v_101 =>
  guardR t183_99 (some ()) () fun _ =>
  let t188_103 : Bool := bif t183_99 then (decide (v_100.1 = v_101.1) && (decide (v_100.2.1 = v_101.2.1) && decide (v_100.2.2.1 = v_101.2.2.1))) else false
  guardR t188_103 (some ()) () fun _ =>
  guardR t188_103 (some (decide (r_94.1.2.1 = 0))) false fun v_104 =>
  let t192_105 : Bool := bif t188_103 then v_104 else false
  guardR t192_105 (some ()) () fun _ =>
  guardR t192_105 (some (decide (r_95.1.2.1 = 0))) false fun v_106 =>
  let t196_107 : Bool := bif t192_105 then v_106 else false
  guardR t196_107 (some r_86.1.1) (0, 0, 0, ()) fun v_108 =>
  guardR t196_107 (vec_May v_108) ((false, ()), ()) fun r_109 =>
  let t200_110 : Bool := bif t196_107 then r_109.1.1 else false
  guardR t200_110 (some r_94.1.1) (0, 0, 0, ()) fun v_111 =>
  guardR t200_110 (vec_May v_111) ((false, ()), ()) fun r_112 =>
  let t204_113 : Bool := bif t200_110 then r_112.1.1 else false
  guardR t204_113 (some ()) () fun _ =>
  guardR t204_113 (some ()) () fun _ =>
  guardR t204_113 (some r_95.1.1.2.2.1) 0 fun v_114 =>
  guardR t204_113 (some (decide (v_114 = 0))) false fun v_115 =>
  guardR t204_113 (some ()) () fun _ =>
  let t211_117 : Bool := bif t204_113 then (decide ((decide (r_96.1.1.1 = r_97.1.1.1) && decide (r_96.1.1.2.1 = r_97.1.1.2.1)) = v_115)) else false
  guardR t211_117 law02_lives ((false, ()), ()) fun r_118 =>
  some (((bif t211_117 then r_118.1.1 else false), ()), ())) = some ((true, ()), ()) := by
  have hx := lt128 hm
  obtain ⟨h1, h2, h3⟩ := may_of hm
  have hxl := may_lt hm
  rw [Int.toNat_natCast] at hxl
  rw [vec_Add2_ok hx hy, vec_AddSat2_ok hx hy, Option.bind_some]
  dsimp only
  cases hm2 : may u y
  · have hb : ∀ r, both (W : Int) u x y r = ((0, 0, 0, ()), 1, ()) := fun r => by unfold both; rw [hm, hm2]; rfl
    rw [hb]
    simp only [show decide ((1 : Int) = 0) = false by decide, Bool.not_false, cond_true, vec_May_ok hy, hm2, Option.bind_some, show decide ((1 : Int) = 1) = true by decide, decide_true, gtrue, lives_ok]
  · by_cases he : (W : Int) = u
    · subst he
      have hyl := may_lt hm2
      rw [Int.toNat_natCast] at hyl
      have hp := Nat.two_pow_pos W
      have hs1 : sat [97, 100, 100] W x y = x + y := by
        unfold sat
        rfl
      rw [both_ok hm hm2, both_ok hm hm2, Int.toNat_natCast, hs1]
      have hsm : may (W : Int) ((x + y) % 2 ^ W) = true := may_of_lt h1 h2 (by rw [Int.toNat_natCast]; exact Nat.mod_lt _ hp)
      have hsub : vec_Sub (vw (W : Int) ((x + y) % 2 ^ W)) (vw (W : Int) y) = some ((vw (W : Int) x, 0, ()), ()) := by
        rw [vec_Sub2_ok (lt128 hsm) hy, both_ok hsm hm2, Int.toNat_natCast]
        have : sat [115, 117, 98] W ((x + y) % 2 ^ W) y % 2 ^ W = x := by
          show ((x + y) % 2 ^ W + (2 ^ W - 1 - y) + 1) % 2 ^ W = x
          rw [Nat.add_assoc, Nat.mod_add_mod, show x + y + (2 ^ W - 1 - y + 1) = x + 2 ^ W by omega, Nat.add_mod_right, Nat.mod_eq_of_lt hxl]
        rw [this]
      have hless : vec_Less (vw (W : Int) ((x + y) % 2 ^ W)) (vw (W : Int) x) = some ((vw 1 (bif decide ((x + y) % 2 ^ W < x) then 1 else 0), 0, ()), ()) := by
        rw [vec_Less_ok (lt128 hsm) hx, both_ok hsm hm]
      have hsatm : may (W : Int) (sat [97, 100, 100, 115, 97, 116] W x y % 2 ^ W) = true := may_of_lt h1 h2 (by rw [Int.toNat_natCast]; exact Nat.mod_lt _ hp)
      have hlast : decide ((decide ((wp (sat [97, 100, 100, 115, 97, 116] W x y % 2 ^ W)).1 = (wp ((x + y) % 2 ^ W)).1) && decide ((wp (sat [97, 100, 100, 115, 97, 116] W x y % 2 ^ W)).2.1 = (wp ((x + y) % 2 ^ W)).2.1)) = decide ((vw 1 (bif decide ((x + y) % 2 ^ W < x) then 1 else 0)).2.2.1 = 0)) = true := by
        rw [wp_eqb]
        by_cases hov : 2 ^ W ≤ x + y
        · have e1 : sat [97, 100, 100, 115, 97, 116] W x y = 2 ^ W - 1 := by
            unfold sat
            rw [decide_eq_true hov]
            rfl
          have e2 : (x + y) % 2 ^ W = x + y - 2 ^ W := by
            rw [Nat.mod_eq_sub_mod hov, Nat.mod_eq_of_lt (by omega)]
          rw [e1, e2, Nat.mod_eq_of_lt (show 2 ^ W - 1 < 2 ^ W by omega), decide_eq_false (show ¬ 2 ^ W - 1 = x + y - 2 ^ W by omega), decide_eq_true (show x + y - 2 ^ W < x by omega)]
          decide
        · have e1 : sat [97, 100, 100, 115, 97, 116] W x y = x + y := by
            unfold sat
            rw [decide_eq_false hov]
            rfl
          rw [e1, Nat.mod_eq_of_lt (show x + y < 2 ^ W by omega), decide_eq_true rfl, decide_eq_false (show ¬ x + y < x by omega)]
          decide
      simp only [decide_true, Bool.not_true, cond_false, hsub, hless, vec_Word_ok, Option.bind_some, gsome, cond_true, Bool.and_self, vec_May_ok (lt128 hsm), vec_May_ok (lt128 hsatm), hsm, hsatm, gtrue, hlast, lives_ok]
    · have hb : ∀ r, both (W : Int) u x y r = ((0, 0, 0, ()), 9, ()) := fun r => by unfold both; rw [hm, hm2, decide_eq_false he]; rfl
      rw [hb]
      simp only [show decide ((9 : Int) = 0) = false by decide, Bool.not_false, cond_true, vec_May_ok hy, hm2, Option.bind_some, show decide ((9 : Int) = 1) = false by decide, Bool.not_true, decide_true, gtrue, lives_ok]

theorem back_ok {a b : Int × Int × Int × Unit} {n : Int} (hA : Wf (.agg (.pair (.int .i64) (.pair (.int .u64) (.pair (.int .u64) .unit)))) a) (hB : Wf (.agg (.pair (.int .i64) (.pair (.int .u64) (.pair (.int .u64) .unit)))) b) : law02_VecBack a b n = some ((true, ()), ()) := by
  obtain ⟨w, x, _, hx, rfl⟩ := vec_arg hA
  obtain ⟨u, y, _, hy, rfl⟩ := vec_arg hB
  have hpv : ((vw w x).1, (vw w x).2.1, (vw w x).2.2.1, ()) = vw w x := rfl
  have hpu : ((vw u y).1, (vw u y).2.1, (vw u y).2.2.1, ()) = vw u y := rfl
  unfold law02_VecBack
  rw [hpv, hpu, vec_May_ok hx, Option.bind_some]
  dsimp only
  cases hm : may w x
  · simp only [Bool.not_false, cond_true, vec_Text_bad hm hx, Option.bind_some, decide_true, gtrue, lives_ok]
  · obtain ⟨h1, h2, h3⟩ := may_of hm
    obtain ⟨W, rfl⟩ : ∃ W : Nat, w = W := ⟨w.toNat, by omega⟩
    have hxl := may_lt hm
    rw [Int.toNat_natCast] at hxl
    have half := back_half (u := u) hm hy
    have hof : ref01_Of (vw (W : Int) x).2.1 (vw (W : Int) x).2.2.1 = some ((rowB (BitVec.ofNat 128 x), ()), ()) := of_wp hx
    simp only [Bool.not_true, cond_false]
    rw [vec_Text_ok hm hx, Option.bind_some, Int.toNat_natCast]
    dsimp only
    rw [vec_Parse_text hm, Option.bind_some]
    simp only [v_eqb, gsome, Bool.and_self, Bool.not_true, Bool.not_false, cond_true, cond_false, decide_true, hof, gtrue, Option.bind_some, ref01_Len_ok, BitVec.toNat_ofNat, Nat.mod_eq_of_lt (show x < 2 ^ 128 from hx)]
    rw [show (vw (W : Int) x).1 = (W : Int) from rfl, decide_eq_false (show ¬ (bitLen x : Int) > (W : Int) by omega)]
    simp only [cond_false]
    simp only [gsome] at half
    by_cases hat : n ≥ 1 ∧ n < (W : Int)
    · obtain ⟨k, rfl⟩ : ∃ k : Nat, n = ((k + 1 : Nat) : Int) := ⟨n.toNat - 1, by omega⟩
      obtain ⟨j, rfl⟩ : ∃ j : Nat, W = k + 1 + j + 1 := ⟨W - k - 2, by omega⟩
      have s1 : vec_Slice (vw ((k + 1 + j + 1 : Nat) : Int) x) (IntKind.i64.wrap (((k + 1 + j + 1 : Nat) : Int) - 1)) ((k + 1 : Nat) : Int) = some ((vw ((j + 1 : Nat) : Int) (x / 2 ^ (k + 1) % 2 ^ (j + 1)), 0, ()), ()) := by
        rw [show IntKind.i64.wrap (((k + 1 + j + 1 : Nat) : Int) - 1) = ((k + 1 + j : Nat) : Int) by rw [wrap_i64 (by omega) (by omega)]; omega]
        exact vec_Slice_ok hm (by omega)
      have s2 : vec_Slice (vw ((k + 1 + j + 1 : Nat) : Int) x) (IntKind.i64.wrap (((k + 1 : Nat) : Int) - 1)) 0 = some ((vw ((k + 1 : Nat) : Int) (x / 2 ^ 0 % 2 ^ (k + 1)), 0, ()), ()) := by
        rw [show IntKind.i64.wrap (((k + 1 : Nat) : Int) - 1) = ((0 + k : Nat) : Int) by rw [wrap_i64 (by omega) (by omega)]; omega]
        exact vec_Slice_ok (l := 0) hm (by omega)
      have hdv : x / 2 ^ (k + 1) < 2 ^ (j + 1) := by
        refine (Nat.div_lt_iff_lt_mul (Nat.two_pow_pos _)).2 ?_
        rw [← Nat.pow_add, show j + 1 + (k + 1) = k + 1 + j + 1 by omega]
        exact hxl
      rw [Nat.mod_eq_of_lt hdv] at s1
      rw [Nat.pow_zero, Nat.div_one] at s2
      have m1 : may ((j + 1 : Nat) : Int) (x / 2 ^ (k + 1)) = true := may_of_lt (by omega) (by omega) (by rw [Int.toNat_natCast]; exact hdv)
      have m2 : may ((k + 1 : Nat) : Int) (x % 2 ^ (k + 1)) = true := may_of_lt (by omega) (by omega) (by rw [Int.toNat_natCast]; exact Nat.mod_lt _ (Nat.two_pow_pos _))
      have s3 := vec_Cat_ok m1 m2 (by omega)
      have hback : x / 2 ^ (k + 1) * 2 ^ (k + 1) + x % 2 ^ (k + 1) = x := by
        rw [Nat.mul_comm]
        exact Nat.div_add_mod x _
      rw [hback, show j + 1 + (k + 1) = k + 1 + j + 1 by omega] at s3
      have hdW : x / 2 ^ (k + 1) < 2 ^ (k + 1 + j + 1) := Nat.lt_of_le_of_lt (Nat.div_le_self _ _) hxl
      have s4 := vec_Shr_ok (k := k + 1) hm
      rw [Nat.mod_eq_of_lt hdW] at s4
      have s5 := vec_Cast_ok (V := k + 1 + j + 1) m1 (by omega) (by omega)
      rw [Nat.mod_eq_of_lt hdW] at s5
      rw [decide_eq_true hat.1]
      simp only [cond_true]
      rw [decide_eq_true hat.2]
      simp only [cond_true, s1, s2, s3, s4, s5, Option.bind_some, decide_true, Bool.and_self, Bool.not_true, Bool.not_false, gtrue, gsome, cond_false, v_eqb, vec_May_ok (lt128 m1), vec_May_ok (lt128 m2), m1, m2]
      exact half
    · have h0 : (bif decide (n ≥ 1) then (bif decide (n ≥ 1) then decide (n < (bif decide (n ≥ 1) then (W : Int) else 0)) else false) else false) = false := by
        by_cases h : n ≥ 1
        · rw [decide_eq_true h]
          simp only [cond_true]
          exact decide_eq_false (by omega)
        · rw [decide_eq_false h]; rfl
      rw [h0, cond_false]
      exact half

end Go.Proofs.Ytipdifiahmgciaa

namespace Go.Proofs.Ytipdifiahmgciaa
open Go Go.Pv Go.Proofs Go.L
set_option maxRecDepth 100000

theorem vec_New_is {w : Int} {x : Nat} (hx : x < 340282366920938463463374607431768211456) : vec_New w (wp x).1 (wp x).2.1 = some ((bif decide (1 ≤ w ∧ w ≤ 128) then (bif may w x then (vw w x, 0, ()) else ((0, 0, 0, ()), 7, ())) else ((0, 0, 0, ()), 9, ())), ()) := by
  have hpv : ((w, (wp x).1, (wp x).2.1, ()) : Int × Int × Int × Unit) = vw w x := rfl
  unfold vec_New
  simp only [width_ok, Option.bind_some, hpv, vec_May_ok hx]
  cases decide (1 ≤ w ∧ w ≤ 128) <;> cases may w x <;> rfl

theorem makes_ok {w hi lo : Int} (h1 : inR .u64 hi = true) (h2 : inR .u64 lo = true) : law02_VecMakes w hi lo = some ((true, ()), ()) := by
  obtain ⟨x, hx, e⟩ := wp_of h1 h2
  have e1 : hi = (wp x).1 := congrArg (·.1) e
  have e2 : lo = (wp x).2.1 := congrArg (·.2.1) e
  subst e1
  subst e2
  have hpv : ((w, (wp x).1, (wp x).2.1, ()) : Int × Int × Int × Unit) = vw w x := rfl
  have hp8 : ((128, (wp x).1, (wp x).2.1, ()) : Int × Int × Int × Unit) = vw 128 x := rfl
  have hpw : (((wp x).1, (wp x).2.1, ()) : Int × Int × Unit) = wp x := rfl
  have t1 : vec_Truth true = some (((1, 0, 1, ()), ()), ()) := rfl
  have t2 : vec_Truth false = some (((1, 0, 0, ()), ()), ()) := rfl
  have vww : ∀ y, (vw w y).1 = w := fun _ => rfl
  have vw1 : ∀ y, (vw w y).2.1 = (wp y).1 := fun _ => rfl
  have vw2 : ∀ y, (vw w y).2.2.1 = (wp y).2.1 := fun _ => rfl
  unfold law02_VecMakes
  by_cases hw : 1 ≤ w ∧ w ≤ 128
  · have hwt : decide (1 ≤ w ∧ w ≤ 128) = true := decide_eq_true hw
    have d1 : decide (w < 1) = false := decide_eq_false (by omega)
    have d2 : decide (w > 128) = false := decide_eq_false (by omega)
    have hN : ((w.toNat : Nat) : Int) = w := by omega
    have hb : ref02_Bits (vw 128 x) = some ((lrow 128 x.testBit, ()), ()) := ref02_Bits_ok hx
    have hs : subL (lrow 128 x.testBit) 0 w = some (lrow w.toNat x.testBit) := by
      have := subL_lrow (n := 128) (lo := 0) (k := w.toNat) x.testBit (by omega)
      simp only [Nat.zero_add, hN] at this
      exact this
    have ho : ref02_Of (lrow w.toNat x.testBit) = some ((vw w (x % 2 ^ w.toNat), ()), ()) := by
      have := ref02_Of_ok (n := w.toNat) (X := x) (by omega)
      rw [hN] at this
      exact this
    cases hm : may w x with
    | true =>
      have hxx : x % 2 ^ w.toNat = x := Nat.mod_eq_of_lt (may_lt hm)
      rw [hxx] at ho
      simp only [hpv, hp8, hpw, ref02_May_ok hx, vec_May_ok hx, vec_New_is hx, vec_Cut_ok hw.1 hw.2 hx, vec_Word_ok, Option.bind_some, hm, hwt, t1, t2, gsome, gtrue, gfalse, decide_true, Bool.not_true, Bool.not_false, cond_true, cond_false, Bool.and_self, d1, d2, hb, hs, ho, hxx, vww, vw1, vw2, lives_ok]
    | false =>
      simp only [hpv, hp8, hpw, ref02_May_ok hx, vec_May_ok hx, vec_New_is hx, vec_Cut_ok hw.1 hw.2 hx, vec_Word_ok, Option.bind_some, hm, hwt, t1, t2, gsome, gtrue, gfalse, decide_true, Bool.not_true, Bool.not_false, cond_true, cond_false, Bool.and_self, d1, d2, hb, hs, ho, vww, vw1, vw2, lives_ok]
  · have hwf : decide (1 ≤ w ∧ w ≤ 128) = false := decide_eq_false hw
    have hor : (bif decide (w < 1) then true else decide (w > 128)) = true := by
      by_cases h : w < 1
      · rw [decide_eq_true h]; rfl
      · rw [decide_eq_false h, decide_eq_true (by omega : w > 128)]; rfl
    have hmay : may w x = false := by
      unfold may
      exact decide_eq_false (fun h => hw h.1)
    have hor2 : (bif decide (w < 1) then true else bif (!decide (w < 1)) then decide (w > 128) else false) = true := by
      cases h : decide (w < 1) with
      | true => rfl
      | false => rw [h] at hor; exact hor
    simp only [hpv, hp8, hpw, ref02_May_ok hx, vec_May_ok hx, vec_New_is hx, vec_Cut_bad hw, vec_Word_ok, Option.bind_some, hmay, hwf, t1, t2, gtrue, hor2, gsome, gfalse, decide_true, Bool.not_true, Bool.not_false, cond_true, cond_false, Bool.and_self, vww, vw1, vw2, lives_ok]

end Go.Proofs.Ytipdifiahmgciaa
