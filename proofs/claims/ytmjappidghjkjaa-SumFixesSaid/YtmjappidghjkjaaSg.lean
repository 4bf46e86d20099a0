/- SumPatches and SumFixes, and the functions they reach, as plain Lean. -/
import Derived.Test.YtmjappidghjkjaaSf
namespace Go.Proofs.Ytmjappidghjkjaa
open Go Go.Pv Go.Proofs
set_option maxRecDepth 100000

noncomputable abbrev f8 := livesF
noncomputable abbrev f9 := addF
noncomputable abbrev f10 (a : AdT) : Option ((Int × Unit) × (AdT × Unit)) := some ((IntKind.u16.wrap (65535 - IntKind.u16.wrap a.1), ()), (a, ()))
noncomputable abbrev f11 := ofF
noncomputable abbrev f13 := rsF
noncomputable abbrev f14 := rightF
noncomputable abbrev f16 := toF
noncomputable abbrev f21 := foldF
abbrev k8 := c8
abbrev k9 := c9
abbrev k10 := c10
abbrev k11 := c11
abbrev k12 := c12
abbrev k13 := c13
abbrev k14 := c14
abbrev k16 := c16
abbrev k21 := c21
abbrev k22 := c22

/-! ### 15: shunter/sum.Patch -/
noncomputable def f15 (sum_0 : Int) (old_1 : Int) (fresh_2 : Int) : Option ((Int × Unit) × (Unit)) :=
  (f21 (IntKind.u64.wrap ((IntKind.u64.wrap ((IntKind.u64.wrap (IntKind.u16.wrap (65535 - sum_0))) + (IntKind.u64.wrap (IntKind.u16.wrap (65535 - old_1))))) + (IntKind.u64.wrap fresh_2)))).bind fun r_8 =>
  some (((IntKind.u16.wrap (65535 - (IntKind.u16.wrap r_8.1.1))), ()), ())
noncomputable def sg15 : Sig := ⟨[.val (.int .u16), .val (.int .u16), .val (.int .u16)], [.val (.int .u16)], []⟩
noncomputable def sm15 : CSem := mkSem sg15 fun x => f15 x.1 x.2.1 x.2.2.1
noncomputable def cf15 : Cfg := cf [(21, sem21)] 20 0 []
theorem r15 (x : ArgT sg15.args) : runF cf15 sg15 (bodyOf Try.f15) [6] x = f15 x.1 x.2.1 x.2.2.1 := by kernel_rfl
theorem c15 : Contract Try.prog 15 sm15 :=
  contract_of (C := cf15) (fun f sem h => (Tab.cons k21 Tab.nil : Tab _) _ (lk_mem' h)) (S := sg15) (fn := Try.f15) (c := bodyOf Try.f15) (ts := [6]) Try.func15 (by kernel_rfl) (by kernel_rfl) (by kernel_rfl) (by kernel_rfl) (by kernel_rfl) (by kernel_rfl) (by kernel_rfl) r15

noncomputable def sem15 : CSem := sm15
theorem k15 : Contract Try.prog 15 sem15 := c15

/-! ### 6: shunter/shunterlaw04.SumPatches -/
noncomputable def f6_s0 (got_9_0 : Int) (c_10_0 : List Int) (some_11_0 : Bool) (k_12_0 : Int) : Option (((Int × (List Int) × Bool × Int × Unit) × (Unit)) ⊕ ((Bool × Unit) × (Unit))) :=
  bif (decide (k_12_0 < (c_10_0.length : Int))) then
    guardR (!some_11_0) (Option.map (fun _ => k_12_0) (ckI k_12_0 c_10_0.length)) 0 fun v_43 =>
    guardR (!some_11_0) (rdI c_10_0 v_43) 0 fun v_44 =>
    some (.inl ((got_9_0, c_10_0, (bif some_11_0 then true else (bif !some_11_0 then !decide (v_44 = 0) else false)), (IntKind.i64.wrap (k_12_0 + 1)), ()), ()))
  else
  (guardR (!(!some_11_0)) (f11 c_10_0) ((0, ()), ()) fun r_48 =>
  let t101_50 : Bool := bif !some_11_0 then true else (bif !(!some_11_0) then decide (got_9_0 = r_48.1.1) else false)
  guardR t101_50 f8 ((false, ()), ()) fun r_51 =>
  some (((bif t101_50 then r_51.1.1 else false), ()), ())).map .inr
noncomputable def f6 (b_0 : List Int) (i_1 : Int) (fresh_2 : Int) : Option ((Bool × Unit) × (Unit)) :=
  let t15_2 : Bool := decide ((b_0.length : Int) > 2000)
  let t19_4 : Bool := bif t15_2 then true else (bif !t15_2 then decide (i_1 < 0) else false)
  bif (bif t19_4 then true else (bif !t19_4 then decide (i_1 ≥ (bif !t19_4 then IntKind.i64.wrap ((bif !t19_4 then (b_0.length : Int) else 0).tdiv 2) else 0)) else false)) then
    f8.bind fun r_9 =>
    some ((r_9.1.1, ()), ())
  else
  (rdI b_0 (IntKind.i64.wrap (2 * i_1))).bind fun v_11 =>
  (rdI b_0 (IntKind.i64.wrap ((IntKind.i64.wrap (2 * i_1)) + 1))).bind fun v_16 =>
  let t42_18 : Int := bitsI .or .u16 (IntKind.u16.wrap ((IntKind.u16.wrap v_11) * 2 ^ 8)) (IntKind.u16.wrap v_16)
  (f11 b_0).bind fun r_19 =>
  (f15 r_19.1.1 t42_18 fresh_2).bind fun r_20 =>
  (f16 [(IntKind.i64.wrap (65535 - (IntKind.i64.wrap r_19.1.1))), (IntKind.i64.wrap (65535 - (IntKind.i64.wrap t42_18))), (IntKind.i64.wrap fresh_2)]).bind fun r_27 =>
  bif (!decide ((IntKind.i64.wrap r_20.1.1) = (IntKind.i64.wrap (65535 - r_27.1.1)))) then
    some ((false, ()), ())
  else
  (roomI 1 ([] : List Int) b_0).bind fun v_30 =>
  let t68_31 : Int := IntKind.i64.wrap (2 * i_1)
  (Option.map (fun _ => t68_31) (ckI t68_31 v_30.length)).bind fun v_34 =>
  (stI v_30 v_34 (IntKind.u8.wrap (fresh_2.fdiv (2 ^ 8)))).bind fun v_35 =>
  let t76_37 : Int := IntKind.i64.wrap ((IntKind.i64.wrap (2 * i_1)) + 1)
  (Option.map (fun _ => t76_37) (ckI t76_37 v_35.length)).bind fun v_39 =>
  (stI v_35 v_39 (IntKind.u8.wrap fresh_2)).bind fun v_40 =>
  loopR (fun (z : (Int × (List Int) × Bool × Int × Unit) × (Unit)) => f6_s0 z.1.1 z.1.2.1 z.1.2.2.1 z.1.2.2.2.1) ((r_20.1.1, v_40, false, 0, ()), ())
noncomputable def sg6 : Sig := ⟨[.val (.slice (.int .u8)), .val (.int .i64), .val (.int .u16)], [.val .bool], []⟩
noncomputable def sm6 : CSem := mkSem sg6 fun x => f6 x.1 x.2.1 x.2.2.1
noncomputable def cf6 : Cfg := cf [(8, sem8), (11, sem11), (15, sem15), (16, sem16)] 105 0 [(0, ⟨[(9, .dat (.int .u16)), (10, .own (.int .u8) false), (11, .dat .bool), (12, .dat (.int .i64))], []⟩)]
theorem r6 (x : ArgT sg6.args) : runF cf6 sg6 (bodyOf Try.f6) [6] x = f6 x.1 x.2.1 x.2.2.1 := by kernel_rfl
theorem c6 : Contract Try.prog 6 sm6 :=
  contract_of (C := cf6) (fun f sem h => (Tab.cons k8 (Tab.cons k11 (Tab.cons k15 (Tab.cons k16 Tab.nil))) : Tab _) _ (lk_mem' h)) (S := sg6) (fn := Try.f6) (c := bodyOf Try.f6) (ts := [6]) Try.func6 (by kernel_rfl) (by kernel_rfl) (by kernel_rfl) (by kernel_rfl) (by kernel_rfl) (by kernel_rfl) (by kernel_rfl) r6

noncomputable def sem6 : CSem := sm6
theorem k6 : Contract Try.prog 6 sem6 := c6

/-! ### 23: shunter/sum.place -/
noncomputable def f23 (b_0 : List Int) (at_1 : Int) : Option ((Bool × Unit) × (Unit)) :=
  let t6_1 : Bool := decide (at_1 ≥ 0)
  let t11_4 : Bool := bif t6_1 then (bif t6_1 then decide ((bif t6_1 then at_1.tmod 2 else 0) = 0) else false) else false
  some (((bif t11_4 then (bif t11_4 then decide (at_1 ≤ (bif t11_4 then IntKind.i64.wrap ((bif t11_4 then (b_0.length : Int) else 0) - 2) else 0)) else false) else false), ()), ())
noncomputable def sg23 : Sig := ⟨[.val (.slice (.int .u8)), .val (.int .i64)], [.val .bool], []⟩
noncomputable def sm23 : CSem := mkSem sg23 fun x => f23 x.1 x.2.1
noncomputable def cf23 : Cfg := cf [] 19 0 []
theorem r23 (x : ArgT sg23.args) : runF cf23 sg23 (bodyOf Try.f23) [4] x = f23 x.1 x.2.1 := by kernel_rfl
theorem c23 : Contract Try.prog 23 sm23 :=
  contract_of (C := cf23) (fun f sem h => (Tab.nil : Tab _) _ (lk_mem' h)) (S := sg23) (fn := Try.f23) (c := bodyOf Try.f23) (ts := [4]) Try.func23 (by kernel_rfl) (by kernel_rfl) (by kernel_rfl) (by kernel_rfl) (by kernel_rfl) (by kernel_rfl) (by kernel_rfl) r23

noncomputable def sem23 : CSem := sm23
theorem k23 : Contract Try.prog 23 sem23 := c23

/-! ### 17: shunter/sum.Without -/
noncomputable def f17 (b_0 : List Int) (at_1 : Int) : Option ((Int × Bool × Unit) × (Unit)) :=
  (f23 b_0 at_1).bind fun r_1 =>
  bif !r_1.1.1 then
    some ((0, false, ()), ())
  else
  (subL b_0 0 at_1).bind fun v_2 =>
  (f9 (0, false, ()) v_2).bind fun r_3 =>
  (subL b_0 (IntKind.i64.wrap (at_1 + 2)) (b_0.length : Int)).bind fun v_5 =>
  (f9 r_3.2.1 v_5).bind fun r_6 =>
  (f10 r_6.2.1).bind fun r_7 =>
  some ((r_7.1.1, true, ()), ())
noncomputable def sg17 : Sig := ⟨[.val (.slice (.int .u8)), .val (.int .i64)], [.val (.int .u16), .val .bool], []⟩
noncomputable def sm17 : CSem := mkSem sg17 fun x => f17 x.1 x.2.1
noncomputable def cf17 : Cfg := cf [(23, sem23), (9, sem9), (10, sem10)] 21 0 []
theorem r17 (x : ArgT sg17.args) : runF cf17 sg17 (bodyOf Try.f17) [4, 5] x = f17 x.1 x.2.1 := by kernel_rfl
theorem c17 : Contract Try.prog 17 sm17 :=
  contract_of (C := cf17) (fun f sem h => (Tab.cons k23 (Tab.cons k9 (Tab.cons k10 Tab.nil)) : Tab _) _ (lk_mem' h)) (S := sg17) (fn := Try.f17) (c := bodyOf Try.f17) (ts := [4, 5]) Try.func17 (by kernel_rfl) (by kernel_rfl) (by kernel_rfl) (by kernel_rfl) (by kernel_rfl) (by kernel_rfl) (by kernel_rfl) r17

noncomputable def sem17 : CSem := sm17
theorem k17 : Contract Try.prog 17 sem17 := c17

/-! ### 24: bytes.Clone -/
noncomputable def f24 (b_0 : List Int) : Option (((List Int) × Unit) × (Unit)) :=
  (notNil b_0).bind fun v_1 =>
  bif v_1 then
    some (([], ()), ())
  else
  (roomI 1 ([] : List Int) b_0).bind fun v_2 =>
  some ((v_2, ()), ())
noncomputable def sg24 : Sig := ⟨[.val (.slice (.int .u8))], [.own (.own (.int .u8))], []⟩
noncomputable def sm24 : CSem := mkSem sg24 fun x => f24 x.1
noncomputable def cf24 : Cfg := cf [] 8 0 []
theorem r24 (x : ArgT sg24.args) : runF cf24 sg24 (bodyOf Try.f24) [2] x = f24 x.1 := by kernel_rfl
theorem c24 : Contract Try.prog 24 sm24 :=
  contract_of (C := cf24) (fun f sem h => (Tab.nil : Tab _) _ (lk_mem' h)) (S := sg24) (fn := Try.f24) (c := bodyOf Try.f24) (ts := [2]) Try.func24 (by kernel_rfl) (by kernel_rfl) (by kernel_rfl) (by kernel_rfl) (by kernel_rfl) (by kernel_rfl) (by kernel_rfl) r24

noncomputable def sem24 : CSem := sm24
theorem k24 : Contract Try.prog 24 sem24 := c24

/-! ### 18: shunter/sum.Fix -/
noncomputable def f18 (b_0 : List Int) (at_1 : Int) : Option (((List Int) × Bool × Unit) × (Unit)) :=
  (f17 b_0 at_1).bind fun r_1 =>
  bif !r_1.1.2.1 then
    some (([], false, ()), ())
  else
  (f24 b_0).bind fun r_2 =>
  let t23_3 : Int := IntKind.i64.wrap (at_1 + 1)
  (Option.map (fun _ => at_1) (ckI at_1 r_2.1.1.length)).bind fun v_7 =>
  (stI r_2.1.1 v_7 (IntKind.u8.wrap (r_1.1.1.fdiv (2 ^ 8)))).bind fun v_8 =>
  (Option.map (fun _ => t23_3) (ckI t23_3 v_8.length)).bind fun v_9 =>
  (stI v_8 v_9 (IntKind.u8.wrap r_1.1.1)).bind fun v_10 =>
  some ((v_10, true, ()), ())
noncomputable def sg18 : Sig := ⟨[.val (.slice (.int .u8)), .val (.int .i64)], [.own (.own (.int .u8)), .val .bool], []⟩
noncomputable def sm18 : CSem := mkSem sg18 fun x => f18 x.1 x.2.1
noncomputable def cf18 : Cfg := cf [(17, sem17), (24, sem24)] 32 0 []
theorem r18 (x : ArgT sg18.args) : runF cf18 sg18 (bodyOf Try.f18) [4, 5] x = f18 x.1 x.2.1 := by kernel_rfl
theorem c18 : Contract Try.prog 18 sm18 :=
  contract_of (C := cf18) (fun f sem h => (Tab.cons k17 (Tab.cons k24 Tab.nil) : Tab _) _ (lk_mem' h)) (S := sg18) (fn := Try.f18) (c := bodyOf Try.f18) (ts := [4, 5]) Try.func18 (by kernel_rfl) (by kernel_rfl) (by kernel_rfl) (by kernel_rfl) (by kernel_rfl) (by kernel_rfl) (by kernel_rfl) r18

noncomputable def sem18 : CSem := sm18
theorem k18 : Contract Try.prog 18 sem18 := c18

/-! ### 19: shunter/shunterref04.Place -/
noncomputable def f19 (b_0 : List Int) (at_1 : Int) : Option ((Bool × Unit) × (Unit)) :=
  let t6_1 : Bool := decide (at_1 ≥ 0)
  let t11_4 : Bool := bif t6_1 then (bif t6_1 then decide ((bif t6_1 then at_1.tmod 2 else 0) = 0) else false) else false
  some (((bif t11_4 then (bif t11_4 then decide (at_1 ≤ (bif t11_4 then IntKind.i64.wrap ((bif t11_4 then (b_0.length : Int) else 0) - 2) else 0)) else false) else false), ()), ())
noncomputable def sg19 : Sig := ⟨[.val (.slice (.int .u8)), .val (.int .i64)], [.val .bool], []⟩
noncomputable def sm19 : CSem := mkSem sg19 fun x => f19 x.1 x.2.1
noncomputable def cf19 : Cfg := cf [] 19 0 []
theorem r19 (x : ArgT sg19.args) : runF cf19 sg19 (bodyOf Try.f19) [4] x = f19 x.1 x.2.1 := by kernel_rfl
theorem c19 : Contract Try.prog 19 sm19 :=
  contract_of (C := cf19) (fun f sem h => (Tab.nil : Tab _) _ (lk_mem' h)) (S := sg19) (fn := Try.f19) (c := bodyOf Try.f19) (ts := [4]) Try.func19 (by kernel_rfl) (by kernel_rfl) (by kernel_rfl) (by kernel_rfl) (by kernel_rfl) (by kernel_rfl) (by kernel_rfl) r19

noncomputable def sem19 : CSem := sm19
theorem k19 : Contract Try.prog 19 sem19 := c19

/-! ### 20: shunter/shunterref04.Without -/
noncomputable def f20 (b_0 : List Int) (at_1 : Int) : Option ((Int × Unit) × (Unit)) :=
  (roomI 1 ([] : List Int) b_0).bind fun v_1 =>
  (Option.map (fun _ => at_1) (ckI at_1 v_1.length)).bind fun v_2 =>
  (stI v_1 v_2 0).bind fun v_3 =>
  let t14_4 : Int := IntKind.i64.wrap (at_1 + 1)
  (Option.map (fun _ => t14_4) (ckI t14_4 v_3.length)).bind fun v_5 =>
  (stI v_3 v_5 0).bind fun v_6 =>
  (f13 v_6).bind fun r_7 =>
  some ((r_7.1.1, ()), ())
noncomputable def sg20 : Sig := ⟨[.val (.slice (.int .u8)), .val (.int .i64)], [.val (.int .i64)], []⟩
noncomputable def sm20 : CSem := mkSem sg20 fun x => f20 x.1 x.2.1
noncomputable def cf20 : Cfg := cf [(13, sem13)] 18 0 []
theorem r20 (x : ArgT sg20.args) : runF cf20 sg20 (bodyOf Try.f20) [4] x = f20 x.1 x.2.1 := by kernel_rfl
theorem c20 : Contract Try.prog 20 sm20 :=
  contract_of (C := cf20) (fun f sem h => (Tab.cons k13 Tab.nil : Tab _) _ (lk_mem' h)) (S := sg20) (fn := Try.f20) (c := bodyOf Try.f20) (ts := [4]) Try.func20 (by kernel_rfl) (by kernel_rfl) (by kernel_rfl) (by kernel_rfl) (by kernel_rfl) (by kernel_rfl) (by kernel_rfl) r20

noncomputable def sem20 : CSem := sm20
theorem k20 : Contract Try.prog 20 sem20 := c20

/-! ### 7: shunter/shunterlaw04.SumFixes -/
noncomputable def f7_s0 (b_0_0 : List Int) (at_1_0 : Int) (s_5_0 : Int) (f_7_0 : List Int) (i_9_0 : Int) : Option ((((List Int) × Int × Int × (List Int) × Int × Unit) × (Unit)) ⊕ ((Bool × Unit) × (Unit))) :=
  bif (decide (i_9_0 < (b_0_0.length : Int))) then
    let t82_28 : Bool := !decide (i_9_0 = at_1_0)
    let t88_31 : Bool := bif t82_28 then (bif t82_28 then !decide (i_9_0 = (bif t82_28 then IntKind.i64.wrap (at_1_0 + 1) else 0)) else false) else false
    guardR t88_31 (Option.map (fun _ => i_9_0) (ckI i_9_0 f_7_0.length)) 0 fun v_32 =>
    guardR t88_31 (rdI f_7_0 v_32) 0 fun v_33 =>
    guardR t88_31 (rdI b_0_0 i_9_0) 0 fun v_34 =>
    bif (bif t88_31 then (bif t88_31 then !decide (v_33 = v_34) else false) else false) then
      some (.inr ((false, ()), ()))
    else
    some (.inl ((b_0_0, at_1_0, s_5_0, f_7_0, (IntKind.i64.wrap (i_9_0 + 1)), ()), ()))
  else
  ((Option.map (fun _ => at_1_0) (ckI at_1_0 f_7_0.length)).bind fun v_38 =>
  (rdI f_7_0 v_38).bind fun v_39 =>
  let t108_43 : Bool := decide ((IntKind.i64.wrap v_39) = (IntKind.i64.wrap ((IntKind.i64.wrap s_5_0).tdiv 256)))
  let t112_44 : Int := bif t108_43 then IntKind.i64.wrap (at_1_0 + 1) else 0
  guardR t108_43 (Option.map (fun _ => t112_44) (ckI t112_44 f_7_0.length)) 0 fun v_45 =>
  guardR t108_43 (rdI f_7_0 v_45) 0 fun v_46 =>
  let t120_51 : Bool := bif t108_43 then (bif t108_43 then decide ((bif t108_43 then IntKind.i64.wrap v_46 else 0) = (bif t108_43 then (bif t108_43 then IntKind.i64.wrap s_5_0 else 0).tmod 256 else 0)) else false) else false
  guardR t120_51 f8 ((false, ()), ()) fun r_52 =>
  some (((bif t120_51 then r_52.1.1 else false), ()), ())).map .inr
noncomputable def f7 (b_0 : List Int) (at_1 : Int) : Option ((Bool × Unit) × (Unit)) :=
  bif (decide ((b_0.length : Int) > 2000)) then
    f8.bind fun r_3 =>
    some ((r_3.1.1, ()), ())
  else
  (f17 b_0 at_1).bind fun r_4 =>
  (f18 b_0 at_1).bind fun r_5 =>
  (f19 b_0 at_1).bind fun r_6 =>
  bif !r_6.1.1 then
    let t35_8 : Bool := bif (decide (r_4.1.1 = 0)) then !r_4.1.2.1 else false
    let t44_12 : Bool := bif (bif t35_8 then (bif t35_8 then decide ((bif t35_8 then (r_5.1.1.length : Int) else 0) = 0) else false) else false) then !r_5.1.2.1 else false
    guardR t44_12 f8 ((false, ()), ()) fun r_13 =>
    some (((bif t44_12 then r_13.1.1 else false), ()), ())
  else
  let t53_15 : Bool := bif !r_4.1.2.1 then true else !r_5.1.2.1
  guardR (!t53_15) (f20 b_0 at_1) ((0, ()), ()) fun r_17 =>
  let t61_19 : Bool := bif t53_15 then true else (bif !t53_15 then !decide ((bif !t53_15 then IntKind.i64.wrap r_4.1.1 else 0) = r_17.1.1) else false)
  let t68_23 : Bool := bif t61_19 then true else (bif !t61_19 then !decide ((bif !t61_19 then (r_5.1.1.length : Int) else 0) = (bif !t61_19 then (b_0.length : Int) else 0)) else false)
  guardR (!t68_23) (f14 r_5.1.1) ((false, ()), ()) fun r_24 =>
  bif (bif t68_23 then true else !r_24.1.1) then
    some ((false, ()), ())
  else
  loopR (fun (z : ((List Int) × Int × Int × (List Int) × Int × Unit) × (Unit)) => f7_s0 z.1.1 z.1.2.1 z.1.2.2.1 z.1.2.2.2.1 z.1.2.2.2.2.1) ((b_0, at_1, r_4.1.1, r_5.1.1, 0, ()), ())
noncomputable def sg7 : Sig := ⟨[.val (.slice (.int .u8)), .val (.int .i64)], [.val .bool], []⟩
noncomputable def sm7 : CSem := mkSem sg7 fun x => f7 x.1 x.2.1
noncomputable def cf7 : Cfg := cf [(8, sem8), (17, sem17), (18, sem18), (19, sem19), (20, sem20), (14, sem14)] 124 0 [(0, ⟨[(0, .dat (.slice (.int .u8))), (1, .dat (.int .i64)), (5, .dat (.int .u16)), (7, .own (.int .u8) false), (9, .dat (.int .i64))], []⟩)]
theorem r7 (x : ArgT sg7.args) : runF cf7 sg7 (bodyOf Try.f7) [4] x = f7 x.1 x.2.1 := by kernel_rfl
theorem c7 : Contract Try.prog 7 sm7 :=
  contract_of (C := cf7) (fun f sem h => (Tab.cons k8 (Tab.cons k17 (Tab.cons k18 (Tab.cons k19 (Tab.cons k20 (Tab.cons k14 Tab.nil))))) : Tab _) _ (lk_mem' h)) (S := sg7) (fn := Try.f7) (c := bodyOf Try.f7) (ts := [4]) Try.func7 (by kernel_rfl) (by kernel_rfl) (by kernel_rfl) (by kernel_rfl) (by kernel_rfl) (by kernel_rfl) (by kernel_rfl) r7

noncomputable def sem7 : CSem := sm7
theorem k7 : Contract Try.prog 7 sem7 := c7

end Go.Proofs.Ytmjappidghjkjaa
