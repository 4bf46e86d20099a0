/- The functions that the statements reach as plain Lean, and what they compute. -/
import Derived.Test.YtipdifiahmgciaaQ13

namespace Go.L
open Go Go.Pv
set_option maxRecDepth 100000

abbrev S1 := ((List Int) × Int × (List Bool) × Int × (List Bool) × Bool × Int × Unit) × ((Int × Int × Int × Unit) × Unit)
noncomputable abbrev f1 : S1 → Option (S1 ⊕ (((Int × Int × Int × Unit) × Int × Unit) × (Unit))) := fun z => ref02_One_s0 z.1.1 z.1.2.1 z.1.2.2.1 z.1.2.2.2.1 z.1.2.2.2.2.1 z.1.2.2.2.2.2.1 z.1.2.2.2.2.2.2.1 z.2.1

/-- the loop, for what makes one bit after the other -/
theorem one_loop {op : List Int} {n : Int} {W V x F : Nat} {car : Nat → Bool} (hV : V ≤ 128) (v : Int × Int × Int × Unit)
    (step : ∀ (i : Nat) (out : List Bool), i < V → out.length = i → ref02_One_s0 op n (lrow W x.testBit) (V : Int) out (car i) (i : Int) v = some (.inl ((op, n, lrow W x.testBit, (V : Int), out ++ [F.testBit i], car (i + 1), ((i + 1 : Nat) : Int), ()), v, ()))) :
    loopR f1 ((op, n, lrow W x.testBit, (V : Int), [], car 0, 0, ()), v, ()) = some ((vw (V : Int) (F % 2 ^ V), 0, ()), ()) := by
  refine loop_up (f := f1) (fun i => ((op, n, lrow W x.testBit, (V : Int), lrow i F.testBit, car i, (i : Int), ()), v, ())) V ?_ ?_ 0 (by omega)
  · intro i hi
    dsimp only [f1]
    rw [step i _ hi (lrow_len _ _), lrow_succ]
  · dsimp only [f1]
    unfold ref02_One_s0
    rw [decide_eq_false (show ¬ (V : Int) < (V : Int) by omega), cond_false, ref02_Of_ok hV]
    rfl

section
variable {n : Int} {W x i : Nat} {out : List Bool} {c : Bool} {v : Int × Int × Int × Unit}

theorem room1 (hW : i < 128) (ho : out.length = i) (b : Bool) : roomI 1 out [b] = some (out ++ [b]) := roomI_ok (by simp only [List.length_cons, List.length_nil]; omega)

theorem step_not (hi : i < W) (hW : W ≤ 128) (ho : out.length = i) : ref02_One_s0 [110, 111, 116] n (lrow W x.testBit) (W : Int) out c (i : Int) v = some (.inl (([110, 111, 116], n, lrow W x.testBit, (W : Int), out ++ [!x.testBit i], c, ((i + 1 : Nat) : Int), ()), v, ())) := by
  have hr := room1 (out := out) (show i < 128 by omega) ho
  unfold ref02_One_s0
  rw [lrow_len, decide_eq_true (show (i : Int) < (W : Int) by omega), cond_true]
  simp only [gtrue, gsome, cond_true]
  rw [ck_nat hi, lrow_rd _ hi, Option.bind_some, wi64 (show i < 1000000000 by omega)]
  generalize x.testBit i = p
  cases p <;> cases c <;> exact (congrArg (fun o => Option.bind o _) (hr _)).trans rfl

theorem step_neg (hi : i < W) (hW : W ≤ 128) (ho : out.length = i) : ref02_One_s0 [110, 101, 103] n (lrow W x.testBit) (W : Int) out c (i : Int) v = some (.inl (([110, 101, 103], n, lrow W x.testBit, (W : Int), out ++ [(!x.testBit i) ^^ c], (!x.testBit i) && c, ((i + 1 : Nat) : Int), ()), v, ())) := by
  have hr := room1 (out := out) (show i < 128 by omega) ho
  unfold ref02_One_s0
  rw [lrow_len, decide_eq_true (show (i : Int) < (W : Int) by omega), cond_true]
  simp only [gtrue, gsome, cond_true]
  rw [ck_nat hi, lrow_rd _ hi, Option.bind_some, wi64 (show i < 1000000000 by omega)]
  generalize x.testBit i = p
  cases p <;> cases c <;> exact (congrArg (fun o => Option.bind o _) (hr _)).trans rfl

theorem step_cast {V : Nat} (hi : i < V) (hV : V ≤ 128) (hx : x < 2 ^ W) (ho : out.length = i) : ref02_One_s0 [99, 97, 115, 116] n (lrow W x.testBit) (V : Int) out c (i : Int) v = some (.inl (([99, 97, 115, 116], n, lrow W x.testBit, (V : Int), out ++ [x.testBit i], c, ((i + 1 : Nat) : Int), ()), v, ())) := by
  have hr := room1 (out := out) (show i < 128 by omega) ho
  unfold ref02_One_s0
  rw [lrow_len, decide_eq_true (show (i : Int) < (V : Int) by omega), cond_true, wi64 (show i < 1000000000 by omega)]
  by_cases h : i < W
  · rw [decide_eq_true (show (i : Int) < (W : Int) by omega)]
    simp only [gtrue, gsome, cond_true]
    rw [ck_nat h, lrow_rd _ h, Option.bind_some]
    generalize x.testBit i = p
    cases p <;> cases c <;> exact (congrArg (fun o => Option.bind o _) (hr _)).trans rfl
  · rw [decide_eq_false (show ¬ (i : Int) < (W : Int) by omega), Nat.testBit_lt_two_pow (Nat.lt_of_lt_of_le hx (Nat.pow_le_pow_right (by omega) (by omega)))]
    simp only [gfalse, gsome, cond_false]
    cases c <;> exact (congrArg (fun o => Option.bind o _) (hr _)).trans rfl

theorem step_shl {k : Nat} (hi : i < W) (hW : W ≤ 128) (hk : k < 9223372036854775808) (ho : out.length = i) : ref02_One_s0 [115, 104, 108] (k : Int) (lrow W x.testBit) (W : Int) out c (i : Int) v = some (.inl (([115, 104, 108], (k : Int), lrow W x.testBit, (W : Int), out ++ [(x * 2 ^ k).testBit i], c, ((i + 1 : Nat) : Int), ()), v, ())) := by
  have hr := room1 (out := out) (show i < 128 by omega) ho
  have hb : (x * 2 ^ k).testBit i = (decide (k ≤ i) && x.testBit (i - k)) := by
    rw [← Nat.shiftLeft_eq, Nat.testBit_shiftLeft]
  unfold ref02_One_s0
  rw [lrow_len, decide_eq_true (show (i : Int) < (W : Int) by omega), cond_true, hb]
  simp only [gtrue, gsome, cond_true]
  rw [ck_nat hi, lrow_rd _ hi, Option.bind_some, wi64 (show i < 1000000000 by omega)]
  by_cases h : k ≤ i
  · rw [decide_eq_true (show (k : Int) ≤ (i : Int) by omega), decide_eq_true h, show minI (k : Int) (i : Int) = (k : Int) by unfold minI; rw [if_pos (by omega)]]
    simp only [cond_true]
    rw [show IntKind.i64.wrap ((i : Int) - (k : Int)) = ((i - k : Nat) : Int) by rw [wrap_i64 (by omega) (by omega)]; omega]
    have hrd : (Option.map (fun _ => ((i - k : Nat) : Int)) (ckI ((i - k : Nat) : Int) W)) = some ((i - k : Nat) : Int) := by
      unfold ckI
      rw [if_pos (by omega)]
      rfl
    simp only [gtrue, gsome, cond_true, hrd, Option.bind_some, lrow_rd x.testBit (show i - k < W by omega), Bool.true_and]
    generalize x.testBit (i - k) = q
    cases q <;> cases c <;> exact (congrArg (fun o => Option.bind o _) (hr _)).trans rfl
  · rw [decide_eq_false (show ¬ (k : Int) ≤ (i : Int) by omega), decide_eq_false h]
    simp only [gfalse, gsome, cond_false]
    cases c <;> exact (congrArg (fun o => Option.bind o _) (hr _)).trans rfl

theorem step_shr {k : Nat} (hi : i < W) (hW : W ≤ 128) (hk : k < 9223372036854775808) (hx : x < 2 ^ W) (ho : out.length = i) : ref02_One_s0 [115, 104, 114] (k : Int) (lrow W x.testBit) (W : Int) out c (i : Int) v = some (.inl (([115, 104, 114], (k : Int), lrow W x.testBit, (W : Int), out ++ [(x / 2 ^ k).testBit i], c, ((i + 1 : Nat) : Int), ()), v, ())) := by
  have hr := room1 (out := out) (show i < 128 by omega) ho
  rw [Nat.testBit_div_two_pow]
  unfold ref02_One_s0
  rw [lrow_len, decide_eq_true (show (i : Int) < (W : Int) by omega), cond_true]
  simp only [gtrue, gsome, cond_true]
  rw [ck_nat hi, lrow_rd _ hi, Option.bind_some, wi64 (show i < 1000000000 by omega), wrap_i64 (n := (W : Int) - (i : Int)) (by omega) (by omega)]
  by_cases h : i + k < W
  · rw [decide_eq_true (show (k : Int) < (W : Int) - (i : Int) by omega), show minI (k : Int) (W : Int) = (k : Int) by unfold minI; rw [if_pos (by omega)]]
    simp only [cond_true]
    rw [wrap_i64 (n := (i : Int) + (k : Int)) (by omega) (by omega), wrap_i64 (n := (W : Int) - 1) (by omega) (by omega), show minI ((i : Int) + (k : Int)) ((W : Int) - 1) = ((i + k : Nat) : Int) by unfold minI; rw [if_pos (by omega)]; omega]
    have hrd : (Option.map (fun _ => ((i + k : Nat) : Int)) (ckI ((i + k : Nat) : Int) W)) = some ((i + k : Nat) : Int) := by
      unfold ckI
      rw [if_pos (by omega)]
      rfl
    simp only [gtrue, gsome, cond_true, hrd, Option.bind_some, lrow_rd x.testBit h]
    generalize x.testBit (i + k) = q
    cases q <;> cases c <;> exact (congrArg (fun o => Option.bind o _) (hr _)).trans rfl
  · have hb : x.testBit (i + k) = false := Nat.testBit_lt_two_pow (Nat.lt_of_lt_of_le hx (Nat.pow_le_pow_right (by omega) (by omega)))
    rw [decide_eq_false (show ¬ (k : Int) < (W : Int) - (i : Int) by omega), hb]
    simp only [gfalse, gsome, cond_false]
    cases c <;> exact (congrArg (fun o => Option.bind o _) (hr _)).trans rfl
end

end Go.L

namespace Go.L
open Go Go.Pv
set_option maxRecDepth 100000

theorem pow128 {W : Nat} (hW : W ≤ 128) : ∃ k, 340282366920938463463374607431768211456 = 2 ^ W * (k + 1) := by
  have hp := Nat.two_pow_pos (128 - W)
  refine ⟨2 ^ (128 - W) - 1, ?_⟩
  rw [show 2 ^ (128 - W) - 1 + 1 = 2 ^ (128 - W) by omega, ← Nat.pow_add, show W + (128 - W) = 128 by omega]

theorem not_mod {x W : Nat} (hW : W ≤ 128) (hx : x < 2 ^ W) : (340282366920938463463374607431768211455 - x) % 2 ^ W = (2 ^ W - 1 - x) % 2 ^ W := by
  obtain ⟨k, hk⟩ := pow128 hW
  rw [Nat.mul_add, Nat.mul_one] at hk
  rw [show 340282366920938463463374607431768211455 - x = 2 ^ W - 1 - x + 2 ^ W * k by omega, Nat.add_mul_mod_self_left]

section
variable {w : Int} {x : Nat} {n : Int}

theorem nots (hx : x < 340282366920938463463374607431768211456) : ∃ r, vec_Not (vw w x) = some ((r, ()) : ((Int × Int × Int × Unit) × Int × Unit) × Unit) ∧ ref02_One [110, 111, 116] (vw w x) n = some (r, ()) := by
  have hpv : ((vw w x).1, (vw w x).2.1, (vw w x).2.2.1, ()) = vw w x := rfl
  unfold vec_Not ref02_One
  rw [hpv, vec_May_ok hx, ref02_May_ok hx, Option.bind_some, Option.bind_some]
  dsimp only
  cases hm : may w x
  · exact ⟨_, rfl, rfl⟩
  · obtain ⟨h1, h2, h3⟩ := may_of hm
    obtain ⟨W, rfl⟩ : ∃ W : Nat, w = W := ⟨w.toNat, by omega⟩
    have hxl := may_lt hm
    rw [Int.toNat_natCast] at hxl
    simp only [Bool.not_true, cond_false, gsome, show decide (([110, 111, 116] : List Int) = [115, 104, 108]) = false by decide, show decide (([110, 111, 116] : List Int) = [115, 104, 114]) = false by decide, show decide (([110, 111, 116] : List Int) = [99, 97, 115, 116]) = false by decide, Bool.not_false, cond_true, decide_true]
    rw [vec_Word_ok, Option.bind_some, ref02_Bits_ok hx, Option.bind_some]
    dsimp only
    rw [word_Not_ok hx, Option.bind_some, show (vw (W : Int) x).1 = (W : Int) from rfl, show (min (W : Int) 128).toNat = W by omega, lrow_len]
    dsimp only
    rw [vec_Cut_ok h1 h2 (by omega), Option.bind_some, Int.toNat_natCast, not_mod (by omega) hxl]
    refine ⟨_, rfl, ?_⟩
    have := one_loop (op := [110, 111, 116]) (n := n) (W := W) (V := W) (x := x) (F := 2 ^ W - 1 - x) (car := fun _ => true) (by omega) (0, 0, 0, ()) (fun i out hi ho => by
      have hb := Nat.testBit_two_pow_sub_succ (n := W) (x := x) hxl i
      rw [show 2 ^ W - (x + 1) = 2 ^ W - 1 - x by omega, decide_eq_true hi, Bool.true_and] at hb
      rw [hb]
      exact step_not hi (by omega) ho)
    exact this

theorem negs (hx : x < 340282366920938463463374607431768211456) : ∃ r, vec_Neg (vw w x) = some ((r, ()) : ((Int × Int × Int × Unit) × Int × Unit) × Unit) ∧ ref02_One [110, 101, 103] (vw w x) n = some (r, ()) := by
  have hpv : ((vw w x).1, (vw w x).2.1, (vw w x).2.2.1, ()) = vw w x := rfl
  unfold vec_Neg ref02_One
  rw [hpv, vec_May_ok hx, ref02_May_ok hx, Option.bind_some, Option.bind_some]
  dsimp only
  cases hm : may w x
  · exact ⟨_, rfl, rfl⟩
  · obtain ⟨h1, h2, h3⟩ := may_of hm
    obtain ⟨W, rfl⟩ : ∃ W : Nat, w = W := ⟨w.toNat, by omega⟩
    have hxl := may_lt hm
    rw [Int.toNat_natCast] at hxl
    simp only [Bool.not_true, cond_false, gsome, show decide (([110, 101, 103] : List Int) = [115, 104, 108]) = false by decide, show decide (([110, 101, 103] : List Int) = [115, 104, 114]) = false by decide, show decide (([110, 101, 103] : List Int) = [99, 97, 115, 116]) = false by decide, Bool.not_false, cond_true, decide_true]
    rw [vec_Word_ok, Option.bind_some, ref02_Bits_ok hx, Option.bind_some]
    dsimp only
    rw [wp0, word_Sub_ok (by omega) hx, Option.bind_some, show (vw (W : Int) x).1 = (W : Int) from rfl, show (min (W : Int) 128).toNat = W by omega, lrow_len]
    dsimp only
    rw [vec_Cut_ok h1 h2 (Nat.mod_lt _ (by omega)), Option.bind_some, Int.toNat_natCast, sub_mod (by omega) hxl]
    refine ⟨_, rfl, ?_⟩
    have := one_loop (op := [110, 101, 103]) (n := n) (W := W) (V := W) (x := x) (F := 0 + (2 ^ W - 1 - x) + 1) (car := fun i => car (2 ^ W - 1 - x) 0 1 i) (by omega) (0, 0, 0, ()) (fun i out hi ho => by
      have hb := Nat.testBit_two_pow_sub_succ (n := W) (x := x) hxl i
      rw [show 2 ^ W - (x + 1) = 2 ^ W - 1 - x by omega, decide_eq_true hi, Bool.true_and] at hb
      have hs := sum_bit (x := 2 ^ W - 1 - x) (y := 0) (c := 1) (by omega) i
      rw [Nat.add_zero, Nat.zero_testBit, Bool.xor_false, hb] at hs
      have hc := car_succ (x := 2 ^ W - 1 - x) (y := 0) (c := 1) (by omega) i
      rw [Nat.zero_testBit, hb] at hc
      have hm : ∀ p c : Bool, maj p false c = (p && c) := by decide
      rw [hm] at hc
      rw [Nat.zero_add, hs, hc]
      exact step_neg hi (by omega) ho)
    have e0 : car (2 ^ W - 1 - x) 0 1 0 = true := by
      unfold car
      rw [Nat.pow_zero, Nat.mod_one, Nat.mod_one]
      rfl
    rw [e0] at this
    exact this

theorem shls (hx : x < 340282366920938463463374607431768211456) (hn : n < 9223372036854775808) : ∃ r, vec_Shl (vw w x) n = some ((r, ()) : ((Int × Int × Int × Unit) × Int × Unit) × Unit) ∧ ref02_One [115, 104, 108] (vw w x) n = some (r, ()) := by
  have hpv : ((vw w x).1, (vw w x).2.1, (vw w x).2.2.1, ()) = vw w x := rfl
  unfold vec_Shl vec_moved_777 ref02_One
  rw [hpv, vec_May_ok hx, ref02_May_ok hx, Option.bind_some, Option.bind_some]
  dsimp only
  cases hm : may w x
  · exact ⟨_, rfl, rfl⟩
  · obtain ⟨h1, h2, h3⟩ := may_of hm
    obtain ⟨W, rfl⟩ : ∃ W : Nat, w = W := ⟨w.toNat, by omega⟩
    have hxl := may_lt hm
    rw [Int.toNat_natCast] at hxl
    simp only [Bool.not_true, cond_false, gsome, show decide (([115, 104, 108] : List Int) = [115, 104, 108]) = true by decide, show decide (([115, 104, 108] : List Int) = [99, 97, 115, 116]) = false by decide, Bool.not_false, cond_true, decide_true]
    by_cases hneg : n < 0
    · rw [decide_eq_true hneg]
      exact ⟨_, rfl, rfl⟩
    · obtain ⟨k, rfl⟩ : ∃ k : Nat, n = k := ⟨n.toNat, by omega⟩
      rw [decide_eq_false hneg]
      simp only [decide_true, Bool.not_true, cond_true, cond_false]
      rw [vec_Word_ok, Option.bind_some, ref02_Bits_ok hx, Option.bind_some]
      dsimp only
      have hmod : moved x (k : Int) % 2 ^ W = x * 2 ^ k % 2 ^ W := by
        unfold moved
        rw [if_pos (by omega), Int.toNat_natCast]
        by_cases h : k < 128
        · rw [if_pos (by omega), mod128 (by omega)]
        · rw [if_neg (by omega), Nat.zero_mod]
          have : 2 ^ k = 2 ^ (k - W) * 2 ^ W := by rw [← Nat.pow_add, show k - W + W = k by omega]
          rw [this, ← Nat.mul_assoc, Nat.mul_mod_left]
      rw [word_Shl_ok hx, Option.bind_some, show (vw (W : Int) x).1 = (W : Int) from rfl, show (min (W : Int) 128).toNat = W by omega, lrow_len]
      dsimp only
      rw [vec_Cut_ok h1 h2 (moved_lt hx _), Option.bind_some, Int.toNat_natCast, hmod]
      refine ⟨_, rfl, ?_⟩
      exact one_loop (op := [115, 104, 108]) (n := (k : Int)) (W := W) (V := W) (x := x) (F := x * 2 ^ k) (car := fun _ => true) (by omega) (0, 0, 0, ()) (fun i out hi ho => step_shl hi (by omega) (by omega) ho)

theorem shrs (hx : x < 340282366920938463463374607431768211456) (hn : n < 9223372036854775808) : ∃ r, vec_Shr (vw w x) n = some ((r, ()) : ((Int × Int × Int × Unit) × Int × Unit) × Unit) ∧ ref02_One [115, 104, 114] (vw w x) n = some (r, ()) := by
  have hpv : ((vw w x).1, (vw w x).2.1, (vw w x).2.2.1, ()) = vw w x := rfl
  unfold vec_Shr vec_moved_93d ref02_One
  rw [hpv, vec_May_ok hx, ref02_May_ok hx, Option.bind_some, Option.bind_some]
  dsimp only
  cases hm : may w x
  · exact ⟨_, rfl, rfl⟩
  · obtain ⟨h1, h2, h3⟩ := may_of hm
    obtain ⟨W, rfl⟩ : ∃ W : Nat, w = W := ⟨w.toNat, by omega⟩
    have hxl := may_lt hm
    rw [Int.toNat_natCast] at hxl
    simp only [Bool.not_true, cond_false, gsome, show decide (([115, 104, 114] : List Int) = [115, 104, 108]) = false by decide, show decide (([115, 104, 114] : List Int) = [115, 104, 114]) = true by decide, show decide (([115, 104, 114] : List Int) = [99, 97, 115, 116]) = false by decide, Bool.not_false, cond_true, decide_true]
    by_cases hneg : n < 0
    · rw [decide_eq_true hneg]
      exact ⟨_, rfl, rfl⟩
    · obtain ⟨k, rfl⟩ : ∃ k : Nat, n = k := ⟨n.toNat, by omega⟩
      rw [decide_eq_false hneg]
      simp only [decide_true, Bool.not_true, cond_true, cond_false]
      rw [vec_Word_ok, Option.bind_some, ref02_Bits_ok hx, Option.bind_some]
      dsimp only
      have hmv : moved x (-(k : Int)) = x / 2 ^ k := by
        unfold moved
        by_cases h0 : k = 0
        · subst h0
          rw [if_pos (by omega), if_pos (by omega), show (-((0 : Nat) : Int)).toNat = 0 from rfl, Nat.pow_zero, Nat.mul_one, Nat.div_one, Nat.mod_eq_of_lt hx]
        · rw [if_neg (by omega), show (-(-(k : Int))).toNat = k by omega]
      rw [word_Shr_ok hx, Option.bind_some, hmv, show (vw (W : Int) x).1 = (W : Int) from rfl, show (min (W : Int) 128).toNat = W by omega, lrow_len]
      dsimp only
      rw [vec_Cut_ok h1 h2 (Nat.lt_of_le_of_lt (Nat.div_le_self _ _) hx), Option.bind_some, Int.toNat_natCast]
      refine ⟨_, rfl, ?_⟩
      exact one_loop (op := [115, 104, 114]) (n := (k : Int)) (W := W) (V := W) (x := x) (F := x / 2 ^ k) (car := fun _ => true) (by omega) (0, 0, 0, ()) (fun i out hi ho => step_shr hi (by omega) (by omega) hxl ho)

theorem casts (hx : x < 340282366920938463463374607431768211456) : ∃ r, vec_Cast (vw w x) n = some ((r, ()) : ((Int × Int × Int × Unit) × Int × Unit) × Unit) ∧ ref02_One [99, 97, 115, 116] (vw w x) n = some (r, ()) := by
  have hpv : ((vw w x).1, (vw w x).2.1, (vw w x).2.2.1, ()) = vw w x := rfl
  unfold vec_Cast ref02_One
  rw [hpv, vec_May_ok hx, ref02_May_ok hx, Option.bind_some, Option.bind_some]
  dsimp only
  cases hm : may w x
  · exact ⟨_, rfl, rfl⟩
  · obtain ⟨h1, h2, h3⟩ := may_of hm
    obtain ⟨W, rfl⟩ : ∃ W : Nat, w = W := ⟨w.toNat, by omega⟩
    have hxl := may_lt hm
    rw [Int.toNat_natCast] at hxl
    simp only [Bool.not_true, cond_false, gsome, show decide (([99, 97, 115, 116] : List Int) = [115, 104, 108]) = false by decide, show decide (([99, 97, 115, 116] : List Int) = [115, 104, 114]) = false by decide, show decide (([99, 97, 115, 116] : List Int) = [99, 97, 115, 116]) = true by decide, Bool.not_false, cond_true, decide_true]
    rw [vec_Word_ok, Option.bind_some]
    dsimp only
    by_cases hb : 1 ≤ n ∧ n ≤ 128
    · obtain ⟨V, rfl⟩ : ∃ V : Nat, n = V := ⟨n.toNat, by omega⟩
      rw [decide_eq_false (show ¬ (V : Int) < 1 by omega), decide_eq_false (show ¬ (V : Int) > 128 by omega), vec_Cut_ok hb.1 hb.2 hx, Option.bind_some, Int.toNat_natCast]
      refine ⟨_, rfl, ?_⟩
      simp only [Bool.not_false, Bool.and_self, cond_true, cond_false]
      rw [ref02_Bits_ok hx, Option.bind_some]
      dsimp only
      rw [show (min (W : Int) 128).toNat = W by omega]
      exact one_loop (op := [99, 97, 115, 116]) (n := (V : Int)) (W := W) (V := V) (x := x) (F := x) (car := fun _ => true) (by omega) (0, 0, 0, ()) (fun i out hi ho => step_cast hi (by omega) hxl ho)
    · rw [vec_Cut_bad hb, Option.bind_some]
      refine ⟨_, rfl, ?_⟩
      have e : (bif decide (n < 1) then true else (bif true && !decide (n < 1) then decide (n > 128) else false)) = true := by
        by_cases h : n < 1
        · rw [decide_eq_true h]; rfl
        · rw [decide_eq_false h, decide_eq_true (show n > 128 by omega)]; rfl
      rw [e]
      rfl

theorem prefixes (hn : n < 9223372036854775808) (hw : -9223372036854775808 ≤ w ∧ w < 9223372036854775808) : ∃ r, vec_Prefix w n = some ((r, ()) : ((Int × Int × Int × Unit) × Int × Unit) × Unit) ∧ ref02_Prefix w n = some (r, ()) := by
  unfold vec_Prefix ref02_Prefix
  rw [width_ok, Option.bind_some]
  simp only [gsome]
  by_cases hb : 1 ≤ w ∧ w ≤ 128
  · rw [decide_eq_true hb, decide_eq_false (show ¬ w < 1 by omega), decide_eq_false (show ¬ w > 128 by omega)]
    simp only [Bool.not_true, Bool.not_false, cond_true, cond_false]
    by_cases h : 0 ≤ n ∧ n ≤ w
    · obtain ⟨k, rfl⟩ : ∃ k : Nat, n = k := ⟨n.toNat, by omega⟩
      obtain ⟨W, rfl⟩ : ∃ W : Nat, w = W := ⟨w.toNat, by omega⟩
      have hp := Nat.pow_le_pow_right (n := 2) (by omega) (show k ≤ 128 by omega)
      rw [show 2 ^ 128 = 340282366920938463463374607431768211456 from rfl] at hp
      have hp0 := Nat.two_pow_pos k
      rw [decide_eq_false (show ¬ (k : Int) < 0 by omega), decide_eq_false (show ¬ (k : Int) > (W : Int) by omega)]
      simp only [Bool.not_false, cond_true, cond_false]
      have hsub : IntKind.i64.wrap ((W : Int) - (k : Int)) = ((W - k : Nat) : Int) := by rw [wrap_i64 (by omega) (by omega)]; omega
      have hF : (2 ^ k - 1) * 2 ^ (W - k) < 2 ^ W := by
        have : 2 ^ W = 2 ^ k * 2 ^ (W - k) := by rw [← Nat.pow_add, show k + (W - k) = W by omega]
        rw [this]
        exact Nat.mul_lt_mul_of_pos_right (by omega) (Nat.two_pow_pos _)
      have hW128 : 2 ^ W ≤ 340282366920938463463374607431768211456 := by
        rw [show 340282366920938463463374607431768211456 = 2 ^ 128 from rfl]
        exact Nat.pow_le_pow_right (by omega) (by omega)
      have hmv : moved (2 ^ k - 1) ((W - k : Nat) : Int) = (2 ^ k - 1) * 2 ^ (W - k) := by
        unfold moved
        rw [if_pos (by omega), Int.toNat_natCast]
        by_cases h128 : W - k < 128
        · rw [if_pos (by omega), Nat.mod_eq_of_lt (by omega)]
        · rw [if_neg (by omega), show k = 0 by omega]
          simp
      rw [word_Ones_ok, Option.bind_some, Int.toNat_natCast, Nat.min_eq_left (show k ≤ 128 by omega)]
      dsimp only
      rw [hsub, word_Shl_ok (by omega), Option.bind_some, hmv]
      dsimp only
      rw [vec_Cut_ok (by omega) (by omega) (by omega), Option.bind_some, Int.toNat_natCast]
      refine ⟨_, rfl, ?_⟩
      refine loop_up (fun i => ((((W : Int), (k : Int), lrow i ((2 ^ k - 1) * 2 ^ (W - k)).testBit, (i : Int), ()), (0, 0, 0, ()), ()) : (Int × Int × (List Bool) × Int × Unit) × ((Int × Int × Int × Unit) × Unit))) W ?_ ?_ 0 (by omega)
      · intro i hi
        dsimp only
        unfold ref02_Prefix_s0
        have hbit : ((2 ^ k - 1) * 2 ^ (W - k)).testBit i = decide ((i : Int) ≥ ((W - k : Nat) : Int)) := by
          rw [← Nat.shiftLeft_eq, Nat.testBit_shiftLeft, Nat.testBit_two_pow_sub_one]
          by_cases hge : i ≥ W - k
          · rw [decide_eq_true hge, decide_eq_true (show i - (W - k) < k by omega), decide_eq_true (by omega)]
            rfl
          · rw [decide_eq_false hge, Bool.false_and]
            exact (decide_eq_false (by omega)).symm
        rw [decide_eq_true (show (i : Int) < (W : Int) by omega), cond_true, hsub, roomI_ok (by rw [lrow_len]; simp only [List.length_cons, List.length_nil]; omega), Option.bind_some, lrow_succ, hbit, wi64 (by omega)]
      · dsimp only
        unfold ref02_Prefix_s0
        rw [decide_eq_false (show ¬ (W : Int) < (W : Int) by omega), cond_false, ref02_Of_ok (by omega)]
        rfl
    · have e : (bif decide (n < 0) then true else (bif !decide (n < 0) then decide (n > w) else false)) = true := by
        by_cases h4 : n < 0
        · rw [decide_eq_true h4]; rfl
        · rw [decide_eq_false h4, decide_eq_true (show n > w by omega)]; rfl
      rw [e]
      exact ⟨_, rfl, rfl⟩
  · have e : (bif decide (w < 1) then true else (bif !decide (w < 1) then decide (w > 128) else false)) = true := by
      by_cases h4 : w < 1
      · rw [decide_eq_true h4]; rfl
      · rw [decide_eq_false h4, decide_eq_true (show w > 128 by omega)]; rfl
    rw [e, decide_eq_false hb]
    exact ⟨_, rfl, rfl⟩
end

end Go.L
