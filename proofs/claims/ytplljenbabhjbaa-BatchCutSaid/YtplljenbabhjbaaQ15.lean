/- The functions that the statements reach as plain Lean, and what they compute. -/
import Derived.Test.YtplljenbabhjbaaQ14

set_option linter.unusedSimpArgs false
set_option linter.unusedVariables false

namespace Go.L
open Go Go.Pv
set_option maxRecDepth 100000

theorem mod_succ (x i : Nat) : x % 2 ^ (i + 1) = x % 2 ^ i + (bif x.testBit i then 2 ^ i else 0) := by
  have h2 : x.testBit i = decide (x / 2 ^ i % 2 = 1) := Nat.testBit_eq_decide_div_mod_eq
  rw [h2, Nat.pow_succ, Nat.mod_mul]
  by_cases h : x / 2 ^ i % 2 = 1
  · rw [decide_eq_true h, h, cond_true, Nat.mul_one]
  · rw [decide_eq_false h, show x / 2 ^ i % 2 = 0 by omega, cond_false, Nat.mul_zero]

/-- the loop that compares, lowest bits first -/
theorem two_s0 {op : List Int} {W x y : Nat} (hW : W ≤ 128) {v : Int × Int × Int × Unit} {r : ((Int × Int × Int × Unit) × Int × Unit) × Unit}
    (h : ref02_Two_s0 op (lrow W x.testBit) (lrow W y.testBit) (decide (x % 2 ^ W < y % 2 ^ W)) (decide (x % 2 ^ W = y % 2 ^ W)) (W : Int) v = some (.inr r)) :
    loopR (fun (z : ((List Int) × (List Bool) × (List Bool) × Bool × Bool × Int × Unit) × ((Int × Int × Int × Unit) × Unit)) => ref02_Two_s0 z.1.1 z.1.2.1 z.1.2.2.1 z.1.2.2.2.1 z.1.2.2.2.2.1 z.1.2.2.2.2.2.1 z.2.1) ((op, lrow W x.testBit, lrow W y.testBit, false, true, 0, ()), v, ()) = some r := by
  have key := loop_up (f := fun (z : ((List Int) × (List Bool) × (List Bool) × Bool × Bool × Int × Unit) × ((Int × Int × Int × Unit) × Unit)) => ref02_Two_s0 z.1.1 z.1.2.1 z.1.2.2.1 z.1.2.2.2.1 z.1.2.2.2.2.1 z.1.2.2.2.2.2.1 z.2.1) (fun i => ((op, lrow W x.testBit, lrow W y.testBit, decide (x % 2 ^ i < y % 2 ^ i), decide (x % 2 ^ i = y % 2 ^ i), (i : Int), ()), v, ())) W (r := r) ?_ h 0 (by omega)
  · rw [Nat.pow_zero, Nat.mod_one, Nat.mod_one] at key
    exact key
  · intro i hi
    dsimp only
    unfold ref02_Two_s0
    rw [lrow_len, lrow_len, decide_eq_true (show (i : Int) < (W : Int) by omega), cond_true, ck_nat hi, lrow_rd _ hi, Option.bind_some, ck_nat hi, lrow_rd _ hi, Option.bind_some, mod_succ x i, mod_succ y i, ck_nat hi, lrow_rd _ hi, Option.bind_some, wi64 (by omega)]
    have hx := Nat.mod_lt x (Nat.two_pow_pos i)
    have hy := Nat.mod_lt y (Nat.two_pow_pos i)
    generalize x % 2 ^ i = p at hx ⊢
    generalize y % 2 ^ i = q at hy ⊢
    generalize 2 ^ i = m at hx hy ⊢
    cases x.testBit i <;> cases y.testBit i
    · rfl
    · simp only [decide_eq_false (show ¬ false = true by decide), Bool.not_false, cond_true, cond_false]
      rw [decide_eq_true (show p + 0 < q + m by omega), decide_eq_false (show ¬ p + 0 = q + m by omega)]
    · simp only [decide_eq_false (show ¬ true = false by decide), Bool.not_false, cond_true, cond_false]
      rw [decide_eq_false (show ¬ p + m < q + 0 by omega), decide_eq_false (show ¬ p + m = q + 0 by omega)]
    · simp only [decide_true, Bool.not_true, cond_true, cond_false]
      rw [show decide (p + m < q + m) = decide (p < q) from decide_eq_decide.2 (by omega), show decide (p + m = q + m) = decide (p = q) from decide_eq_decide.2 (by omega)]

/-- one bit as a vector -/
theorem of_one (b : Bool) : ref02_Of [b] = some ((vw 1 (bif b then 1 else 0), ()), ()) := by
  have h := ref02_Of_ok (n := 1) (X := bif b then 1 else 0) (by omega)
  have e : lrow 1 (bif b then 1 else 0 : Nat).testBit = [b] := by cases b <;> rfl
  rw [e] at h
  rw [h]
  cases b <;> rfl

theorem truth_ok (b : Bool) : vec_Truth b = some ((vw 1 (bif b then 1 else 0), ()), ()) := by cases b <;> rfl

/-- what two vectors of one width are made to -/
def both (w u : Int) (x y : Nat) (r : (Int × Int × Int × Unit) × Int × Unit) : (Int × Int × Int × Unit) × Int × Unit :=
  bif may w x && may u y then (bif decide (w = u) then r else ((0, 0, 0, ()), 9, ())) else ((0, 0, 0, ()), 1, ())

theorem two_and_ok {w u : Int} {x y : Nat} (hx : x < 340282366920938463463374607431768211456) (hy : y < 340282366920938463463374607431768211456) : vec_two_d65 (vw w x) (vw u y) = some ((both w u x y (vw w (x &&& y), 0, ())), ()) := by
  have hpv : ((vw w x).1, (vw w x).2.1, (vw w x).2.2.1, ()) = vw w x := rfl
  have hpu : ((vw u y).1, (vw u y).2.1, (vw u y).2.2.1, ()) = vw u y := rfl
  unfold vec_two_d65 both
  rw [hpv, hpu, vec_May_ok hx, Option.bind_some]
  dsimp only
  cases hm : may w x
  · simp only [Bool.not_false, Bool.not_true, gsome, gfalse, cond_true, cond_false, Bool.false_and]
  · simp only [Bool.not_true, Bool.not_false, gsome, gtrue, cond_true, cond_false, Bool.true_and]
    rw [vec_May_ok hy, Option.bind_some]
    dsimp only
    cases hm2 : may u y
    · rfl
    · simp only [Bool.not_true, cond_false, cond_true]
      rw [show (vw w x).1 = w from rfl, show (vw u y).1 = u from rfl]
      by_cases h : w = u
      · subst h
        obtain ⟨h1, h2, h3⟩ := may_of hm
        have hpx : ((wp x).1, (wp x).2.1, ()) = wp x := rfl
        have hpy : ((wp y).1, (wp y).2.1, ()) = wp y := rfl
        rw [decide_eq_true rfl, Bool.not_true, cond_false, cond_true, vec_Word_ok, Option.bind_some, vec_Word_ok, Option.bind_some]
        dsimp only
        have hl : x &&& y < 2 ^ w.toNat := Nat.and_lt_two_pow x (may_lt hm2)
        rw [word_And_ok hx hy, Option.bind_some]
        dsimp only
        rw [vec_Cut_ok h1 h2 (Nat.and_lt_two_pow (n := 128) x hy), Option.bind_some, Nat.mod_eq_of_lt hl]
      · rw [decide_eq_false h]
        rfl

theorem vec_Less_ok {w u : Int} {x y : Nat} (hx : x < 340282366920938463463374607431768211456) (hy : y < 340282366920938463463374607431768211456) : vec_Less (vw w x) (vw u y) = some ((both w u x y (vw 1 (bif decide (x < y) then 1 else 0), 0, ())), ()) := by
  have hpv : ((vw w x).1, (vw w x).2.1, (vw w x).2.2.1, ()) = vw w x := rfl
  have hpu : ((vw u y).1, (vw u y).2.1, (vw u y).2.2.1, ()) = vw u y := rfl
  have hpx : ((wp x).1, (wp x).2.1, ()) = wp x := rfl
  have hpy : ((wp y).1, (wp y).2.1, ()) = wp y := rfl
  unfold vec_Less vec_told_44b
  rw [hpv, hpu, two_and_ok hx hy, Option.bind_some]
  have hc : decide (cmp x y < 0) = decide (x < y) := decide_eq_decide.2 (by unfold cmp; split <;> (try split) <;> omega)
  unfold both
  cases may w x
  · rfl
  · cases may u y
    · rfl
    · by_cases h : w = u
      · subst h
        simp only [Bool.and_self, cond_true, decide_true, Bool.not_true, cond_false, vec_Word_ok, Option.bind_some, hpx, hpy, word_Cmp_ok hx hy, vec_Less_1, hc, truth_ok]
      · simp only [decide_eq_false h]
        rfl

theorem ref02_less_ok {w u : Int} {x y : Nat} (hx : x < 340282366920938463463374607431768211456) (hy : y < 340282366920938463463374607431768211456) : ref02_Two [108, 101, 115, 115] (vw w x) (vw u y) = some ((both w u x y (vw 1 (bif decide (x < y) then 1 else 0), 0, ())), ()) := by
  have hpv : ((vw w x).1, (vw w x).2.1, (vw w x).2.2.1, ()) = vw w x := rfl
  have hpu : ((vw u y).1, (vw u y).2.1, (vw u y).2.2.1, ()) = vw u y := rfl
  unfold ref02_Two both
  rw [hpv, hpu, ref02_May_ok hx, Option.bind_some]
  dsimp only
  cases hm : may w x
  · simp only [Bool.not_false, Bool.not_true, gsome, gfalse, cond_true, cond_false, Bool.false_and]
  · simp only [Bool.not_true, Bool.not_false, gsome, gtrue, cond_true, cond_false, Bool.true_and]
    rw [ref02_May_ok hy, Option.bind_some]
    dsimp only
    cases hm2 : may u y
    · rfl
    · simp only [Bool.not_true, cond_false, cond_true]
      rw [show (vw w x).1 = w from rfl, show (vw u y).1 = u from rfl]
      by_cases h : w = u
      · subst h
        obtain ⟨h1, h2, h3⟩ := may_of hm
        obtain ⟨W, rfl⟩ : ∃ W : Nat, w = W := ⟨w.toNat, by omega⟩
        have hxl := may_lt hm
        have hyl := may_lt hm2
        rw [Int.toNat_natCast] at hxl hyl
        rw [decide_eq_true rfl, Bool.not_true, cond_false, cond_true, ref02_Bits_ok hx, Option.bind_some, ref02_Bits_ok hy, Option.bind_some]
        dsimp only
        rw [show (min (W : Int) 128).toNat = W by omega]
        refine two_s0 (by omega) ?_
        unfold ref02_Two_s0
        rw [lrow_len, decide_eq_false (show ¬ (W : Int) < (W : Int) by omega), cond_false, show decide (([108, 101, 115, 115] : List Int) = [101, 113]) = false by decide, show decide (([108, 101, 115, 115] : List Int) = [108, 101, 115, 115]) = true by decide, cond_false, cond_true, of_one, Nat.mod_eq_of_lt hxl, Nat.mod_eq_of_lt hyl]
        rfl
      · rw [decide_eq_false h]
        rfl

theorem within {w1 w2 w3 : Int} {x y z : Nat} (hx : x < 340282366920938463463374607431768211456) (hy : y < 340282366920938463463374607431768211456) (hz : z < 340282366920938463463374607431768211456) : ∃ r, vec_Within (vw w1 x) (vw w2 y) (vw w3 z) = some ((r, ()), ()) ∧ ref02_Within (vw w1 x) (vw w2 y) (vw w3 z) = some ((r, ()), ()) := by
  have hpx : ((vw w1 x).1, (vw w1 x).2.1, (vw w1 x).2.2.1, ()) = vw w1 x := rfl
  have hpy : ((vw w2 y).1, (vw w2 y).2.1, (vw w2 y).2.2.1, ()) = vw w2 y := rfl
  have hpz : ((vw w3 z).1, (vw w3 z).2.1, (vw w3 z).2.2.1, ()) = vw w3 z := rfl
  unfold vec_Within ref02_Within
  rw [hpx, hpy, hpz, vec_Less_ok hx hy, vec_Less_ok hz hx, ref02_less_ok hx hy, ref02_less_ok hz hx]
  simp only [Option.bind_some, gsome]
  exact ⟨_, rfl, rfl⟩

end Go.L

namespace Go.L
open Go Go.Pv
set_option maxRecDepth 100000

def neg (op : List Int) : Bool := decide (op = [115, 117, 98]) || decide (op = [115, 117, 98, 115, 97, 116])

/-- the second number, as it is added -/
def opd (op : List Int) (W y : Nat) : Nat := bif neg op then 2 ^ W - 1 - y else y
def c0 (op : List Int) : Nat := bif neg op then 1 else 0

end Go.L

namespace Go.L
open Go Go.Pv
set_option maxRecDepth 100000

/-- what two numbers of W bits are made to -/
def num (op : List Int) (W x y : Nat) : Nat :=
  bif decide (op = [97, 110, 100]) then x &&& y else bif decide (op = [111, 114]) then x ||| y else bif decide (op = [120, 111, 114]) then x ^^^ y else x + opd op W y + c0 op

end Go.L

namespace Go.L
open Go Go.Pv
set_option maxRecDepth 100000

abbrev S1 := ((List Int) × Int × (List Bool) × Int × (List Bool) × Bool × Int × Unit) × ((Int × Int × Int × Unit) × Unit)
noncomputable abbrev f1 : S1 → Option (S1 ⊕ (((Int × Int × Int × Unit) × Int × Unit) × (Unit))) := fun z => ref02_One_s0 z.1.1 z.1.2.1 z.1.2.2.1 z.1.2.2.2.1 z.1.2.2.2.2.1 z.1.2.2.2.2.2.1 z.1.2.2.2.2.2.2.1 z.2.1

section
variable {n : Int} {W x i : Nat} {out : List Bool} {c : Bool} {v : Int × Int × Int × Unit}

end

end Go.L

namespace Go.L
open Go Go.Pv
set_option maxRecDepth 100000

theorem may_of_lt {w : Int} {x : Nat} (h1 : 1 ≤ w) (h2 : w ≤ 128) (hx : x < 2 ^ w.toNat) : may w x = true := by
  have := bitLen_le hx
  exact decide_eq_true ⟨⟨h1, h2⟩, by omega⟩

end Go.L

namespace Go.L
open Go Go.Pv
set_option maxRecDepth 100000

theorem be_snoc (n m : Nat) : be n (m + 1) = be (n / 256) m ++ [((n % 256 : Nat) : Int)] := by
  unfold be lrow
  rw [List.range_succ, List.map_append]
  congr 1
  · apply List.map_congr_left
    intro j hj
    have hj := List.mem_range.1 hj
    have e : 8 * (m + 1 - 1 - j) = 8 + 8 * (m - 1 - j) := by omega
    rw [e, Nat.pow_add, ← Nat.div_div_eq_div_mul]
  · simp

theorem beN_be : ∀ (m n : Nat), beN (be n m) = n % 256 ^ m
  | 0, n => by rw [Nat.pow_zero, Nat.mod_one]; rfl
  | m + 1, n => by
    rw [be_snoc, beN_snoc, beN_be m, Nat.pow_succ, Nat.mul_comm (256 ^ m), Nat.mod_mul, Int.toNat_natCast]
    omega

theorem be_beN : ∀ (m : Nat) (l : List Int), l.length = m → (∀ v ∈ l, inR .u8 v = true) → be (beN l) m = l
  | 0, l, h, _ => by obtain rfl := List.length_eq_zero_iff.1 h; rfl
  | m + 1, l, h, hu => by
    rcases List.eq_nil_or_concat l with rfl | ⟨l', v, hc⟩
    · simp at h
    · rw [List.concat_eq_append] at hc
      subst hc
      rw [List.length_append] at h
      have hv := u8_of (hu v (by simp))
      have h1 := be_beN m l' (by simpa using h) fun v hv => hu v (by simp [hv])
      rw [be_snoc, beN_snoc, show (beN l' * 256 + v.toNat) / 256 = beN l' by omega, h1, show (beN l' * 256 + v.toNat) % 256 = v.toNat by omega]
      congr 2
      omega

structure Codec (b : List Int) {α : Type} (R : Sta → α × Sta) (V : α → Prop) (e : α → List Int) : Prop where
  stick : ∀ s f, s.2 = some f → (R s).2 = s
  enc : ∀ x a, V x → a ≤ b.length → e x <+: b.drop a → R (a, none) = (x, a + (e x).length, none)
  cut : ∀ x a, V x → a ≤ b.length → b.drop a <+: e x → (b.drop a).length < (e x).length → ∃ p : Nat, (R (a, none)).2.2 = some (3, (p : Int), ()) ∧ p ≤ b.length
  dec : ∀ a, a ≤ b.length → (R (a, none)).2.2 = none → V (R (a, none)).1 ∧ e (R (a, none)).1 <+: b.drop a ∧ (R (a, none)).2.1 = a + (e (R (a, none)).1).length

theorem pre_drop {l e1 e2 : List Int} (h : e1 ++ e2 <+: l) : e1 <+: l ∧ e2 <+: l.drop e1.length := by
  obtain ⟨t, rfl⟩ := h
  refine ⟨⟨e2 ++ t, by rw [List.append_assoc]⟩, ⟨t, ?_⟩⟩
  rw [List.append_assoc, List.drop_left]

theorem pre_len {l e : List Int} (h : e <+: l) : e.length ≤ l.length := h.length_le

theorem sta_none {s : Sta} (h : s.2 = none) : s = (s.1, none) := by
  obtain ⟨a, f⟩ := s
  obtain rfl : f = none := h
  rfl

theorem Codec.seq {b : List Int} {α β : Type} {R1 : Sta → α × Sta} {R2 : α → Sta → β × Sta} {V1 : α → Prop} {V2 : α → β → Prop} {e1 : α → List Int} {e2 : α → β → List Int}
    (h1 : Codec b R1 V1 e1) (h2 : ∀ x, V1 x → Codec b (R2 x) (V2 x) (e2 x)) (hs : ∀ x s f, s.2 = some f → (R2 x s).2 = s) :
    Codec b (fun s => (((R1 s).1, (R2 (R1 s).1 (R1 s).2).1), (R2 (R1 s).1 (R1 s).2).2)) (fun p => V1 p.1 ∧ V2 p.1 p.2) (fun p => e1 p.1 ++ e2 p.1 p.2) where
  stick s f hf := by
    show (R2 (R1 s).1 (R1 s).2).2 = s
    rw [h1.stick s f hf]
    exact hs _ _ _ hf
  enc x a hV ha hp := by
    obtain ⟨p1, p2⟩ := pre_drop hp
    have hl := pre_len p1
    rw [List.length_drop] at hl
    have r1 := h1.enc x.1 a hV.1 ha p1
    rw [List.drop_drop] at p2
    have r2 := (h2 x.1 hV.1).enc x.2 (a + (e1 x.1).length) hV.2 (by omega) p2
    show (((R1 (a, none)).1, (R2 (R1 (a, none)).1 (R1 (a, none)).2).1), (R2 (R1 (a, none)).1 (R1 (a, none)).2).2) = (x, a + (e1 x.1 ++ e2 x.1 x.2).length, none)
    rw [r1]
    show ((x.1, (R2 x.1 (a + (e1 x.1).length, none)).1), (R2 x.1 (a + (e1 x.1).length, none)).2) = _
    rw [r2, List.length_append, Nat.add_assoc]
  cut x a hV ha hp hl := by
    dsimp only at hp hl ⊢
    by_cases hc : (b.drop a).length < (e1 x.1).length
    · have hp1 : b.drop a <+: e1 x.1 := List.prefix_of_prefix_length_le hp (List.prefix_append _ _) (by omega)
      obtain ⟨p, hp2, hp3⟩ := h1.cut x.1 a hV.1 ha hp1 hc
      refine ⟨p, ?_, hp3⟩
      rw [hs _ _ _ hp2, hp2]
    · have hp1 : e1 x.1 <+: b.drop a := List.prefix_of_prefix_length_le (List.prefix_append _ _) hp (by omega)
      have r1 := h1.enc x.1 a hV.1 ha hp1
      have hl2 := pre_len hp1
      rw [List.length_drop] at hl2
      rw [List.length_append] at hl
      have hp4 : b.drop (a + (e1 x.1).length) <+: e2 x.1 x.2 := by
        obtain ⟨t, ht⟩ := hp
        refine ⟨t, ?_⟩
        have := congrArg (List.drop (e1 x.1).length) ht
        rw [List.drop_left, List.drop_append_of_le_length (by rw [List.length_drop]; omega), List.drop_drop] at this
        exact this
      obtain ⟨p, hp2, hp3⟩ := (h2 x.1 hV.1).cut x.2 (a + (e1 x.1).length) hV.2 (by omega) hp4 (by rw [List.length_drop] at hl ⊢; omega)
      refine ⟨p, ?_, hp3⟩
      rw [r1]
      exact hp2
  dec a ha hn := by
    dsimp only at hn ⊢
    have hn1 : (R1 (a, none)).2.2 = none := by
      cases hf : (R1 (a, none)).2.2 with
      | none => rfl
      | some f =>
        rw [hs _ _ _ hf, hf] at hn
        cases hn
    obtain ⟨d1, d2, d3⟩ := h1.dec a ha hn1
    have hl := pre_len d2
    rw [List.length_drop] at hl
    have hst := sta_none hn1
    rw [d3] at hst
    rw [hst] at hn ⊢
    obtain ⟨c1, c2, c3⟩ := (h2 _ d1).dec _ (by omega) hn
    refine ⟨⟨d1, c1⟩, ?_, ?_⟩
    · obtain ⟨t, ht⟩ := d2
      have := congrArg (List.drop (e1 (R1 (a, none)).1).length) ht
      rw [List.drop_left, List.drop_drop] at this
      rw [← this] at c2
      rw [← ht]
      exact (List.prefix_append_right_inj _).2 c2
    · rw [c3, List.length_append]
      omega

theorem Codec.map {b : List Int} {α β : Type} {R : Sta → α × Sta} {R' : Sta → β × Sta} {V : α → Prop} {V' : β → Prop} {e : α → List Int} {e' : β → List Int} {f : α → β} (g : β → α)
    (h : Codec b R V e) (hR2 : ∀ s, (R' s).2 = (R s).2) (hR1 : ∀ s, (R s).2.2 = none → (R' s).1 = f (R s).1)
    (h1 : ∀ y, V' y → V (g y) ∧ f (g y) = y ∧ e' y = e (g y)) (h2 : ∀ x, V x → V' (f x) ∧ e' (f x) = e x) : Codec b R' V' e' where
  stick s t ht := by rw [hR2]; exact h.stick s t ht
  enc y a hV ha hp := by
    obtain ⟨k1, k2, k3⟩ := h1 y hV
    rw [k3] at hp ⊢
    have r := h.enc (g y) a k1 ha hp
    have r1 := hR1 (a, none) (by rw [r])
    have r2 := hR2 (a, none)
    rw [r] at r1 r2
    dsimp only at r1 r2
    rw [k2] at r1
    exact Prod.ext r1 r2
  cut y a hV ha hp hl := by
    obtain ⟨k1, k2, k3⟩ := h1 y hV
    rw [k3] at hp hl
    rw [hR2]
    exact h.cut (g y) a k1 ha hp hl
  dec a ha hn := by
    rw [hR2] at hn ⊢
    rw [hR1 _ hn]
    obtain ⟨d1, d2, d3⟩ := h.dec a ha hn
    obtain ⟨k1, k2⟩ := h2 _ d1
    rw [k2]
    exact ⟨k1, d2, d3⟩

theorem take_pre {l e : List Int} {k : Nat} (h : e <+: l) (hk : e.length = k) : l.take k = e := by
  obtain ⟨t, rfl⟩ := h
  rw [← hk, List.take_left]

theorem nat64_nat {n : Nat} (h : n < 18446744073709551616) : nat64 (n : Int) = n := by
  have := nat64_eq (n : Int)
  omega

theorem codec_num {b : List Int} (hb : okB b) {k : Nat} {m : Int} (hk : k ≤ 4) (hm : m < (256 ^ k : Nat)) : Codec b (fun s => rdNum b s.1 s.2 k m) (fun n => 0 ≤ n ∧ n ≤ m) (fun n => be (nat64 n) k) where
  stick s f hf := by
    obtain ⟨a, g⟩ := s
    obtain rfl : g = some f := hf
    rfl
  enc n a hV ha hp := by
    have hp' := take_pre hp (be_len _ _)
    have hl := pre_len hp
    rw [be_len, List.length_drop] at hl
    obtain ⟨x, rfl⟩ : ∃ x : Nat, n = (x : Int) := ⟨n.toNat, by omega⟩
    have h4 : 256 ^ k ≤ 256 ^ 4 := Nat.pow_le_pow_right (by omega) hk
    have hx : x < 256 ^ k := by omega
    rw [nat64_nat (by omega)] at hp' ⊢
    dsimp only
    unfold rdNum
    dsimp only
    rw [if_pos (by omega), hp', beN_be, Nat.mod_eq_of_lt hx, if_neg (by omega), be_len]
  cut n a hV ha hp hl := by
    rw [be_len, List.length_drop] at hl
    dsimp only
    rw [rdNum0 (by omega)]
    exact ⟨a, rfl, ha⟩
  dec a ha hn := by
    dsimp only at hn ⊢
    unfold rdNum at hn ⊢
    dsimp only at hn ⊢
    by_cases h : a + k ≤ b.length
    · rw [if_pos h] at hn ⊢
      by_cases h2 : ((beN ((b.drop a).take k) : Nat) : Int) > m
      · rw [if_pos h2] at hn; cases hn
      · rw [if_neg h2] at hn ⊢
        have h4 : 256 ^ k ≤ 256 ^ 4 := Nat.pow_le_pow_right (by omega) hk
        have hlk : ((b.drop a).take k).length = k := by rw [List.length_take, List.length_drop]; omega
        have hlt := beN_lt _ (mem_part (n := a) (k := k) hb.u8)
        rw [hlk] at hlt
        dsimp only
        rw [nat64_nat (by omega), be_beN k _ hlk (mem_part hb.u8)]
        exact ⟨⟨by omega, by omega⟩, List.take_prefix _ _, by rw [hlk]⟩
    · rw [if_neg h] at hn; cases hn

/-- a vector's number -/
abbrev vn (v : Int × Int × Int × Unit) : Nat := v.2.1.toNat * 18446744073709551616 + v.2.2.1.toNat
def vecV (v : Int × Int × Int × Unit) : Prop := may v.1 (vn v) = true ∧ okV v
abbrev encV (v : Int × Int × Int × Unit) : List Int := enc v.1 (vn v)

theorem bits_lt {w : Int} {x : Nat} (h : may w x = true) : x < 2 ^ w.toNat := by
  obtain ⟨h1, h2, h3⟩ := may_of h
  have h4 := (bitLen_spec x).1
  exact Nat.lt_of_lt_of_le h4 (Nat.pow_le_pow_right (by omega) (by omega))

theorem okV_of {w : Int} {x : Nat} (h : x < 340282366920938463463374607431768211456) : okV (vw w x) ∧ vn (vw w x) = x := by
  unfold okV vn vw wp
  dsimp only
  refine ⟨⟨?_, ?_⟩, ?_⟩
  · simp [inR, IntKind.min, IntKind.max, IntKind.signed, IntKind.bits]; omega
  · simp [inR, IntKind.min, IntKind.max, IntKind.signed, IntKind.bits]; omega
  · omega

theorem enc_eq {w : Int} {x : Nat} (h : may w x = true) : enc w x = [w] ++ be x ((w.toNat + 7) / 8) := by
  unfold enc; rw [h]; rfl

theorem pow256 {w n : Nat} (h : w ≤ 8 * n) : 2 ^ w ≤ 256 ^ n := by
  rw [show 256 ^ n = 2 ^ (8 * n) by rw [Nat.pow_mul]]
  exact Nat.pow_le_pow_right (by omega) h

theorem beN1 {v : Int} (h : 0 ≤ v) : beN [v] = v.toNat := by unfold beN; simp

theorem codec_vec {b : List Int} (hb : okB b) : Codec b (rdVec b) vecV encV where
  stick s f hf := by
    obtain ⟨a, g⟩ := s
    obtain rfl : g = some f := hf
    rfl
  enc v a hV ha hp := by
    obtain ⟨k1, k2⟩ := hV
    obtain ⟨h1, h2, _⟩ := may_of k1
    have hx := bits_lt k1
    have hev := (okV_vw k2).2
    have hp : enc v.1 (vn v) <+: b.drop a := hp
    show rdVec b (a, none) = (v, a + (enc v.1 (vn v)).length, none)
    rw [enc_eq k1] at hp ⊢
    change v = vw v.1 (vn v) at hev
    generalize vn v = x at *
    obtain ⟨p1, p2⟩ := pre_drop hp
    have hl := pre_len hp
    rw [List.length_append, be_len, List.length_drop, List.length_singleton] at hl
    rw [List.drop_drop, List.length_singleton] at p2
    have t1 := take_pre p1 rfl
    have t2 := take_pre p2 (be_len _ _)
    rw [List.length_singleton] at t1
    obtain ⟨w, hw⟩ : ∃ w : Nat, v.1 = (w : Int) := ⟨v.1.toNat, by omega⟩
    rw [hw] at t1 t2 hx hl h1 h2 hev ⊢
    rw [Int.toNat_natCast] at t2 hx hl ⊢
    have hq := pow256 (w := w) (n := (w + 7) / 8) (by omega)
    have b1 := beN1 (v := (w : Int)) (by omega)
    rw [Int.toNat_natCast] at b1
    unfold rdVec
    dsimp only
    rw [if_pos (by omega), t1, b1]
    rw [if_neg (by omega), if_pos (by omega), t2, beN_be, Nat.mod_eq_of_lt (by omega), if_pos hx, List.length_append, List.length_singleton, be_len, ← hev, Nat.add_assoc]
  cut v a hV ha hp hl := by
    obtain ⟨k1, k2⟩ := hV
    obtain ⟨h1, h2, _⟩ := may_of k1
    have hp : b.drop a <+: enc v.1 (vn v) := hp
    have hl : (b.drop a).length < (enc v.1 (vn v)).length := hl
    rw [enc_eq k1] at hp hl
    rw [List.length_append, be_len, List.length_drop, List.length_singleton] at hl
    refine ⟨a, ?_, ha⟩
    unfold rdVec
    dsimp only
    by_cases hA : a + 1 ≤ b.length
    · have t1 : (b.drop a).take 1 = [v.1] := by
        have h3 : [v.1] <+: b.drop a := List.prefix_of_prefix_length_le (List.prefix_append _ _) hp (by rw [List.length_drop, List.length_singleton]; omega)
        exact take_pre h3 rfl
      have b1 := beN1 (v := v.1) (by omega)
      rw [if_pos hA, t1, b1, if_neg (by omega), if_neg (by omega)]
    · rw [if_neg hA]
  dec a ha hn := by
    have hn : (rdVec b (a, none)).2.2 = none := hn
    show vecV (rdVec b (a, none)).1 ∧ encV (rdVec b (a, none)).1 <+: b.drop a ∧ (rdVec b (a, none)).2.1 = a + (encV (rdVec b (a, none)).1).length
    unfold rdVec at hn ⊢
    dsimp only at hn ⊢
    by_cases hA : a + 1 ≤ b.length
    · rw [if_pos hA] at hn ⊢
      have hlk : ((b.drop a).take 1).length = 1 := by rw [List.length_take, List.length_drop]; omega
      have hbe := be_beN 1 _ hlk (mem_part hb.u8)
      have hlt := one_lt hb a
      generalize beN ((b.drop a).take 1) = w at *
      by_cases hbad : w < 1 ∨ 128 < w
      · rw [if_pos hbad] at hn; cases hn
      · rw [if_neg hbad] at hn ⊢
        have hq := pow256 (w := w) (n := (w + 7) / 8) (by omega)
        have h1 : be w 1 = [(w : Int)] := by
          have := be1 (n := (w : Int)) (by omega) (by omega)
          rw [nat64_nat (by omega)] at this
          exact this
        have hn16 : (w + 7) / 8 ≤ 16 := by omega
        have hwn : (((w : Int).toNat + 7) / 8) = (w + 7) / 8 := by rw [Int.toNat_natCast]
        generalize (w + 7) / 8 = n at *
        by_cases hk : a + 1 + n ≤ b.length
        · rw [if_pos hk] at hn ⊢
          have hlk2 : ((b.drop (a + 1)).take n).length = n := by rw [List.length_take, List.length_drop]; omega
          have hbe2 := be_beN n _ hlk2 (mem_part hb.u8)
          generalize hX : beN ((b.drop (a + 1)).take n) = x at *
          by_cases hx : x < 2 ^ w
          · rw [if_pos hx] at hn ⊢
            have h128 : 2 ^ w ≤ 2 ^ 128 := Nat.pow_le_pow_right (by omega) (by omega)
            have hx128 : x < 340282366920938463463374607431768211456 := Nat.lt_of_lt_of_le hx h128
            obtain ⟨o1, o2⟩ := okV_of (w := (w : Int)) hx128
            have hm : may (w : Int) x = true := may_of_lt (by omega) (by omega) (by rw [Int.toNat_natCast]; exact hx)
            have he : encV (vw (w : Int) x) = (b.drop a).take 1 ++ ((b.drop (a + 1)).take n) := by
              show enc (w : Int) (vn (vw (w : Int) x)) = _
              rw [o2, enc_eq hm, hwn, hbe2, ← hbe, h1]
            have hd : (b.drop a).take 1 ++ ((b.drop (a + 1)).take n) = (b.drop a).take (1 + n) := by
              rw [List.take_add, List.drop_drop]
            dsimp only
            rw [he, hd]
            refine ⟨⟨?_, o1⟩, List.take_prefix _ _, ?_⟩
            · rw [o2]; exact hm
            · rw [List.length_take, List.length_drop]; omega
          · rw [if_neg hx] at hn; cases hn
        · rw [if_neg hk] at hn; cases hn
    · rw [if_neg hA] at hn; cases hn

end Go.L

namespace Go.L
open Go Go.Pv
set_option maxRecDepth 100000

theorem dl_concat {α : Type} [Inhabited α] {l : List α} (h : l ≠ []) : l.dropLast ++ [l.getLastD default] = l := by
  rcases List.eq_nil_or_concat l with rfl | ⟨l', v, hc⟩
  · exact absurd rfl h
  · rw [List.concat_eq_append] at hc
    subst hc
    simp

theorem codec_seqV {b : List Int} (hb : okB b) : ∀ n, Codec b (seqV b n) (fun l => l.length = n ∧ ∀ v ∈ l, vecV v) encs
  | 0 => {
    stick := fun s f hf => rfl
    enc := fun x a hV ha hp => by
      obtain rfl : x = [] := List.length_eq_zero_iff.1 hV.1
      rfl
    cut := fun x a hV ha hp hl => by
      obtain rfl : x = [] := List.length_eq_zero_iff.1 hV.1
      simp [encs] at hl
    dec := fun a ha hn => ⟨⟨rfl, fun v hv => by simp [seqV] at hv⟩, List.nil_prefix, rfl⟩ }
  | n + 1 => by
    have h := (codec_seqV hb n).seq (R2 := fun _ => rdVec b) (fun _ _ => codec_vec hb) (fun _ s f hf => (codec_vec hb).stick s f hf)
    refine h.map (fun l => (l.dropLast, l.getLastD default)) (fun s => rfl) (f := fun p => p.1 ++ [p.2]) (fun s _ => rfl) ?_ ?_
    · intro l ⟨h1, h2⟩
      have hne : l ≠ [] := by intro e; rw [e] at h1; simp at h1
      have hc := dl_concat hne
      refine ⟨⟨⟨by rw [List.length_dropLast]; omega, fun v hv => h2 v (List.dropLast_subset l hv)⟩, ?_⟩, hc, ?_⟩
      · apply h2
        rw [← hc]
        simp
      · dsimp only
        conv => lhs; rw [← hc]
        rw [encs_append]
        simp [encs]
    · intro p ⟨⟨h1, h2⟩, h3⟩
      refine ⟨⟨by rw [List.length_append, h1]; rfl, fun v hv => ?_⟩, ?_⟩
      · rcases List.mem_append.1 hv with h | h
        · exact h2 v h
        · rw [List.mem_singleton.1 h]; exact h3
      · rw [encs_append]
        simp [encs]

theorem codec_seqN {b : List Int} (hb : okB b) : ∀ n, Codec b (seqN b 255 n) (fun l => l.length = n ∧ ∀ v ∈ l, 0 ≤ v ∧ v ≤ 255) (fun l => l.map IntKind.u8.wrap)
  | 0 => {
    stick := fun s f hf => rfl
    enc := fun x a hV ha hp => by
      obtain rfl : x = [] := List.length_eq_zero_iff.1 hV.1
      rfl
    cut := fun x a hV ha hp hl => by
      obtain rfl : x = [] := List.length_eq_zero_iff.1 hV.1
      simp at hl
    dec := fun a ha hn => ⟨⟨rfl, fun v hv => by simp [seqN] at hv⟩, List.nil_prefix, rfl⟩ }
  | n + 1 => by
    have hc1 := codec_num hb (k := 1) (m := 255) (by omega) (by omega)
    have h := (codec_seqN hb n).seq (R2 := fun _ s => rdNum b s.1 s.2 1 255) (fun _ _ => hc1) (fun _ s f hf => hc1.stick s f hf)
    refine h.map (fun l => (l.dropLast, l.getLastD default)) (fun s => rfl) (f := fun p => p.1 ++ [p.2]) (fun s _ => rfl) ?_ ?_
    · intro l ⟨h1, h2⟩
      have hne : l ≠ [] := by intro e; rw [e] at h1; simp at h1
      have hc := dl_concat hne
      refine ⟨⟨⟨by rw [List.length_dropLast]; omega, fun v hv => h2 v (List.dropLast_subset l hv)⟩, ?_⟩, hc, ?_⟩
      · apply h2
        rw [← hc]
        simp
      · dsimp only
        conv => lhs; rw [← hc]
        rw [List.map_append, be_one]
        rfl
    · intro p ⟨⟨h1, h2⟩, h3⟩
      refine ⟨⟨by rw [List.length_append, h1]; rfl, fun v hv => ?_⟩, ?_⟩
      · rcases List.mem_append.1 hv with h | h
        · exact h2 v h
        · rw [List.mem_singleton.1 h]; exact h3
      · rw [List.map_append, be_one]
        rfl

theorem codec_count {b : List Int} (hb : okB b) {m : Int} (hm : m ≤ 255) : Codec b (fun s => rdCount b s m) (fun n => 0 ≤ n ∧ n ≤ m) (fun n => be (nat64 n) 1) := by
  have h := codec_num hb (k := 1) (m := 255) (by omega) (by omega)
  refine { stick := ?_, enc := ?_, cut := ?_, dec := ?_ }
  · intro s f hf
    have hs := h.stick s f hf
    show (rdCount b s m).2 = s
    unfold rdCount
    dsimp only at hs ⊢
    rw [hf] at hs ⊢
    exact hs
  · intro n a hV ha hp
    have hs := h.enc n a ⟨hV.1, by omega⟩ ha hp
    show rdCount b (a, none) m = _
    unfold rdCount
    dsimp only at hs ⊢
    rw [hs]
    dsimp only
    rw [if_neg (by omega)]
  · intro n a hV ha hp hl
    obtain ⟨p, hs, hp2⟩ := h.cut n a ⟨hV.1, by omega⟩ ha hp hl
    refine ⟨p, ?_, hp2⟩
    show (rdCount b (a, none) m).2.2 = _
    unfold rdCount
    dsimp only at hs ⊢
    rw [hs]
    exact hs
  · intro a ha hn
    have hs := h.dec a ha
    have hn : (rdCount b (a, none) m).2.2 = none := hn
    show (0 ≤ (rdCount b (a, none) m).1 ∧ (rdCount b (a, none) m).1 ≤ m) ∧ be (nat64 (rdCount b (a, none) m).1) 1 <+: b.drop a ∧ (rdCount b (a, none) m).2.1 = a + (be (nat64 (rdCount b (a, none) m).1) 1).length
    unfold rdCount at hn ⊢
    dsimp only at hs hn ⊢
    generalize rdNum b a none 1 255 = r at *
    cases hr : r.2.2 with
    | some f =>
      rw [hr] at hn
      dsimp only at hn
      rw [hr] at hn
      cases hn
    | none =>
      rw [hr] at hn
      dsimp only at hn ⊢
      by_cases hc : r.1 > m
      · rw [if_pos hc] at hn; cases hn
      · rw [if_neg hc]
        obtain ⟨d1, d2, d3⟩ := hs hr
        exact ⟨⟨d1.1, by omega⟩, d2, d3⟩

theorem codec_vecs {b : List Int} (hb : okB b) {m : Int} (hm : m ≤ 255) : Codec b (fun s => rdVecs b s m) (fun l => (l.length : Int) ≤ m ∧ ∀ v ∈ l, vecV v) encVecs := by
  have h := (codec_count hb hm).seq (R2 := fun n => seqV b n.toNat) (V2 := fun n l => l.length = n.toNat ∧ ∀ v ∈ l, vecV v) (e2 := fun _ l => encs l) (fun n _ => codec_seqV hb n.toNat) (fun n s f hf => (codec_seqV hb n.toNat).stick s f hf)
  refine h.map (fun l => ((l.length : Int), l)) (fun s => rfl) (f := fun p => p.2) ?_ ?_ ?_
  · intro s hn
    show (rdVecs b s m).1 = _
    unfold rdVecs
    dsimp only at hn ⊢
    rw [hn]
    rfl
  · intro l ⟨h1, h2⟩
    refine ⟨⟨⟨by omega, h1⟩, ⟨show l.length = ((l.length : Int)).toNat by omega, h2⟩⟩, rfl, ?_⟩
    unfold encVecs
    rw [if_pos (by omega), be1 (by omega) (by omega)]
    rfl
  · intro p ⟨h1, h2, h3⟩
    refine ⟨⟨by rw [h2]; omega, h3⟩, ?_⟩
    unfold encVecs
    rw [if_pos (by omega), be1 (by omega) (by omega), h2, show ((p.1.toNat : Nat) : Int) = p.1 by omega]
    rfl

theorem codec_nums {b : List Int} (hb : okB b) {m : Int} (hm : m ≤ 255) : Codec b (fun s => rdNums b s m 255) (fun l => (l.length : Int) ≤ m ∧ ∀ v ∈ l, 0 ≤ v ∧ v ≤ 255) encNums := by
  have h := (codec_count hb hm).seq (R2 := fun n => seqN b 255 n.toNat) (V2 := fun n l => l.length = n.toNat ∧ ∀ v ∈ l, 0 ≤ v ∧ v ≤ 255) (e2 := fun _ l => l.map IntKind.u8.wrap) (fun n _ => codec_seqN hb n.toNat) (fun n s f hf => (codec_seqN hb n.toNat).stick s f hf)
  refine h.map (fun l => ((l.length : Int), l)) (fun s => rfl) (f := fun p => p.2) ?_ ?_ ?_
  · intro s hn
    show (rdNums b s m 255).1 = _
    unfold rdNums
    dsimp only at hn ⊢
    rw [hn]
    rfl
  · intro l ⟨h1, h2⟩
    refine ⟨⟨⟨by omega, h1⟩, ⟨show l.length = ((l.length : Int)).toNat by omega, h2⟩⟩, rfl, ?_⟩
    unfold encNums
    rw [if_pos (by omega), be1 (by omega) (by omega)]
    rfl
  · intro p ⟨h1, h2, h3⟩
    refine ⟨⟨by rw [h2]; omega, h3⟩, ?_⟩
    unfold encNums
    rw [if_pos (by omega), be1 (by omega) (by omega), h2, show ((p.1.toNat : Nat) : Int) = p.1 by omega]
    rfl

def rowV (m : Nat) (l : List V4) : Prop := (l.length : Int) ≤ m ∧ ∀ v ∈ l, vecV v
def num2V (n : Int) : Prop := 0 ≤ n ∧ n ≤ 65535
def num1V (n : Int) : Prop := 0 ≤ n ∧ n ≤ 255

abbrev Mt := List V4 × List V4 × Int × Int
abbrev Ca := Int × List V4
def matV (p : Mt) : Prop := rowV 4 p.1 ∧ rowV 4 p.2.1 ∧ num2V p.2.2.1 ∧ num2V p.2.2.2
def calV (p : Ca) : Prop := num1V p.1 ∧ rowV 8 p.2
def matE (p : Mt) : List Int := encVecs p.1 ++ (encVecs p.2.1 ++ (be (nat64 p.2.2.1) 2 ++ be (nat64 p.2.2.2) 2))
def calE (p : Ca) : List Int := be (nat64 p.1) 1 ++ encVecs p.2

theorem codec_two {b : List Int} (hb : okB b) : Codec b (fun s => rdNum b s.1 s.2 2 65535) num2V (fun n => be (nat64 n) 2) := codec_num hb (by omega) (by omega)
theorem codec_one {b : List Int} (hb : okB b) : Codec b (fun s => rdNum b s.1 s.2 1 255) num1V (fun n => be (nat64 n) 1) := codec_num hb (by omega) (by omega)

theorem codec_match {b : List Int} (hb : okB b) : Codec b (rdMatch b) matV matE := by
  have c4 : Codec b (fun s => rdVecs b s 4) (rowV 4) encVecs := codec_vecs hb (by omega)
  have c2 := codec_two hb
  have h1 := c2.seq (R2 := fun _ s => rdNum b s.1 s.2 2 65535) (fun _ _ => c2) (fun _ => c2.stick)
  have h2 := c4.seq (R2 := fun _ => _) (fun _ _ => h1) (fun _ => h1.stick)
  have h3 := c4.seq (R2 := fun _ => _) (fun _ _ => h2) (fun _ => h2.stick)
  exact h3

theorem codec_call {b : List Int} (hb : okB b) : Codec b (rdCall b) calV calE := by
  have c8 : Codec b (fun s => rdVecs b s 8) (rowV 8) encVecs := codec_vecs hb (by omega)
  exact (codec_one hb).seq (R2 := fun _ s => rdVecs b s 8) (fun _ _ => c8) (fun _ => c8.stick)

end Go.L

namespace Go.L
open Go Go.Pv
set_option maxRecDepth 100000

/-- its vectors are of fit numbers -/
def okE (u : Up) : Prop := (∀ v ∈ u.2.2.1.1, okV v) ∧ (∀ v ∈ u.2.2.1.2.1, okV v) ∧ ∀ v ∈ u.2.2.1.2.2.2.2.1.2.1, okV v
def upV (u : Up) : Prop := mayU u = true ∧ okE u

theorem rowV_of {l : List V4} {m : Nat} : (rowsB l m = true ∧ ∀ v ∈ l, okV v) ↔ rowV m l := by
  unfold rowsB rowV
  rw [Bool.and_eq_true, decide_eq_true_eq, List.all_eq_true]
  constructor
  · intro ⟨⟨h1, h2⟩, h3⟩
    exact ⟨by omega, fun v hv => ⟨h2 v hv, h3 v hv⟩⟩
  · intro ⟨h1, h2⟩
    exact ⟨⟨by omega, fun v hv => (h2 v hv).1⟩, fun v hv => (h2 v hv).2⟩

theorem inB_iff {n lo hi : Int} : inB n lo hi = true ↔ lo ≤ n ∧ n ≤ hi := by unfold inB; simp

/-- an update behind its kind -/
def upK (b : List Int) (k : Int) (s : Sta) : Up × Sta :=
  let t := rdNum b s.1 s.2 1 255
  if k = 4 then
    (let p := rdNums b t.2 64 255
     ((k, 0, ([], [], 0, 0, (0, [], ()), ()), t.1, p.1, ()), p.2))
  else
    (let m := if k = 3 then (([], [], 0, 0), t.2) else rdMatch b t.2
     let c := if k = 2 then ((0, []), m.2) else rdCall b m.2
     ((k, t.1, (m.1.1, m.1.2.1, m.1.2.2.1, m.1.2.2.2, (c.1.1, c.1.2, ()), ()), 0, [], ()), c.2))

def bytesK (u : Up) : List Int := if u.1 = 4 then be (nat64 u.2.2.2.1) 1 ++ encNums u.2.2.2.2.1 else
    be (nat64 u.2.1) 1 ++ ((if u.1 = 3 then [] else encVecs u.2.2.1.1 ++ (encVecs u.2.2.1.2.1 ++ (be (nat64 u.2.2.1.2.2.1) 2 ++ be (nat64 u.2.2.1.2.2.2.1) 2))) ++
      (if u.1 = 2 then [] else be (nat64 u.2.2.1.2.2.2.2.1.1) 1 ++ encVecs u.2.2.1.2.2.2.2.1.2.1))

theorem codec_K4 {b : List Int} (hb : okB b) : Codec b (upK b 4) (fun u => u.1 = 4 ∧ upV u) bytesK := by
  have c : Codec b (fun s => rdNums b s 64 255) (fun l => (l.length : Int) ≤ 64 ∧ ∀ v ∈ l, 0 ≤ v ∧ v ≤ 255) encNums := codec_nums hb (by omega)
  have h := (codec_one hb).seq (R2 := fun _ s => rdNums b s 64 255) (fun _ _ => c) (fun _ => c.stick)
  refine h.map (fun u => (u.2.2.2.1, u.2.2.2.2.1)) (fun s => rfl) (f := fun p => (4, 0, ([], [], 0, 0, (0, [], ()), ()), p.1, p.2, ())) (fun s _ => rfl) ?_ ?_
  · rintro ⟨k, t, ⟨vs, ms, ln, pr, ⟨ac, xs, _⟩, _⟩, g, ps, _⟩ ⟨hk, hm, ho⟩
    dsimp only at hk
    subst hk
    simp [mayU, grpB, noRows, noCall, inB] at hm
    obtain ⟨⟨⟨⟨⟨h1, h2⟩, h3⟩, h4⟩, h5⟩, h6⟩ := hm
    obtain ⟨⟨⟨a1, a2⟩, a3⟩, a4⟩ := h2
    obtain ⟨b1, b2⟩ := h3
    subst h1 a1 a2 a3 a4 b1 b2
    refine ⟨⟨⟨by dsimp only; omega, by dsimp only; omega⟩, by dsimp only; omega, fun v hv => h6 v hv⟩, rfl, ?_⟩
    simp [bytesK]
  · rintro ⟨t, l⟩ ⟨h1, h2, h3⟩
    refine ⟨⟨rfl, ?_, ⟨by simp, by simp, by simp⟩⟩, ?_⟩
    · have h1 : 0 ≤ t ∧ t ≤ 255 := h1
      simp [mayU, grpB, noRows, noCall, inB]
      exact ⟨⟨h1, by dsimp only at h2; omega⟩, h3⟩
    · simp [bytesK]

theorem codec_K3 {b : List Int} (hb : okB b) : Codec b (upK b 3) (fun u => u.1 = 3 ∧ upV u) bytesK := by
  have c := codec_call hb
  have h := (codec_one hb).seq (R2 := fun _ => rdCall b) (fun _ _ => c) (fun _ => c.stick)
  refine h.map (fun u => (u.2.1, (u.2.2.1.2.2.2.2.1.1, u.2.2.1.2.2.2.2.1.2.1))) (fun s => rfl) (f := fun p => (3, p.1, ([], [], 0, 0, (p.2.1, p.2.2, ()), ()), 0, [], ())) (fun s _ => rfl) ?_ ?_
  · rintro ⟨k, t, ⟨vs, ms, ln, pr, ⟨ac, xs, _⟩, _⟩, g, ps, _⟩ ⟨hk, hm, ho⟩
    dsimp only at hk
    subst hk
    simp [mayU, tabB, noRows, hasCall, inB_iff] at hm
    obtain ⟨⟨⟨⟨h1, h2⟩, h3⟩, h4⟩, h5, h6⟩ := hm
    obtain ⟨⟨⟨a1, a2⟩, a3⟩, a4⟩ := h4
    subst a1 a2 a3 a4 h2 h3
    refine ⟨⟨h1, h5, rowV_of.1 ⟨h6, ho.2.2⟩⟩, rfl, ?_⟩
    simp [bytesK, calE]
  · rintro ⟨t, c⟩ ⟨h1, h2, h3⟩
    obtain ⟨r1, r2⟩ := rowV_of.2 h3
    refine ⟨⟨rfl, ?_, ⟨by simp, by simp, r2⟩⟩, ?_⟩
    · have h1 : 0 ≤ t ∧ t ≤ 255 := h1
      have h2 : 0 ≤ c.1 ∧ c.1 ≤ 255 := h2
      simp [mayU, tabB, noRows, hasCall, inB_iff]
      exact ⟨h1, h2, r1⟩
    · simp [bytesK, calE]

theorem codec_K2 {b : List Int} (hb : okB b) : Codec b (upK b 2) (fun u => u.1 = 2 ∧ upV u) bytesK := by
  have c := codec_match hb
  have h := (codec_one hb).seq (R2 := fun _ => rdMatch b) (fun _ _ => c) (fun _ => c.stick)
  refine h.map (fun u => (u.2.1, (u.2.2.1.1, u.2.2.1.2.1, u.2.2.1.2.2.1, u.2.2.1.2.2.2.1))) (fun s => rfl) (f := fun p => (2, p.1, (p.2.1, p.2.2.1, p.2.2.2.1, p.2.2.2.2, (0, [], ()), ()), 0, [], ())) (fun s _ => rfl) ?_ ?_
  · rintro ⟨k, t, ⟨vs, ms, ln, pr, ⟨ac, xs, _⟩, _⟩, g, ps, _⟩ ⟨hk, hm, ho⟩
    dsimp only at hk
    subst hk
    simp [mayU, tabB, noCall, hasRows, inB_iff] at hm
    obtain ⟨⟨⟨⟨h1, h2⟩, h3⟩, h4⟩, h5, h6⟩ := hm
    obtain ⟨⟨⟨a1, a2⟩, a3⟩, a4⟩ := h4
    subst h2 h3 h5 h6
    refine ⟨⟨h1, rowV_of.1 ⟨a1, ho.1⟩, rowV_of.1 ⟨a2, ho.2.1⟩, a3, a4⟩, rfl, ?_⟩
    simp [bytesK, matE]
  · rintro ⟨t, c⟩ ⟨h1, h2, h3, h4, h5⟩
    obtain ⟨r1, r2⟩ := rowV_of.2 h2
    obtain ⟨q1, q2⟩ := rowV_of.2 h3
    refine ⟨⟨rfl, ?_, ⟨r2, q2, by simp⟩⟩, ?_⟩
    · have h1 : 0 ≤ t ∧ t ≤ 255 := h1
      simp [mayU, tabB, noCall, hasRows, inB_iff]
      exact ⟨h1, ⟨⟨r1, q1⟩, h4⟩, h5⟩
    · simp [bytesK, matE]

theorem codec_K01 {b : List Int} (hb : okB b) {k : Int} (hk : k = 0 ∨ k = 1) : Codec b (upK b k) (fun u => u.1 = k ∧ upV u) bytesK := by
  have c := codec_match hb
  have d := codec_call hb
  have h0 := c.seq (R2 := fun _ => rdCall b) (fun _ _ => d) (fun _ => d.stick)
  have h := (codec_one hb).seq (R2 := fun _ => _) (fun _ _ => h0) (fun _ => h0.stick)
  refine h.map (fun u => (u.2.1, ((u.2.2.1.1, u.2.2.1.2.1, u.2.2.1.2.2.1, u.2.2.1.2.2.2.1), (u.2.2.1.2.2.2.2.1.1, u.2.2.1.2.2.2.2.1.2.1)))) ?_ (f := fun p => (k, p.1, (p.2.1.1, p.2.1.2.1, p.2.1.2.2.1, p.2.1.2.2.2, (p.2.2.1, p.2.2.2, ()), ()), 0, [], ())) ?_ ?_ ?_
  · intro s
    unfold upK
    dsimp only
    rw [if_neg (by omega), if_neg (by omega), if_neg (by omega)]
  · intro s _
    unfold upK
    dsimp only
    rw [if_neg (by omega), if_neg (by omega), if_neg (by omega)]
  · rintro ⟨k, t, ⟨vs, ms, ln, pr, ⟨ac, xs, _⟩, _⟩, g, ps, _⟩ ⟨hk', hm, ho⟩
    dsimp only at hk'
    subst hk'
    simp [mayU, tabB, hasCall, hasRows, inB_iff, hk] at hm
    obtain ⟨⟨⟨⟨h1, h2⟩, h3⟩, h4⟩, h5, h6⟩ := hm
    obtain ⟨⟨⟨a1, a2⟩, a3⟩, a4⟩ := h4
    subst h2 h3
    refine ⟨⟨h1, ⟨rowV_of.1 ⟨a1, ho.1⟩, rowV_of.1 ⟨a2, ho.2.1⟩, a3, a4⟩, h5, rowV_of.1 ⟨h6, ho.2.2⟩⟩, rfl, ?_⟩
    unfold bytesK matE calE
    dsimp only
    rw [if_neg (by omega), if_neg (by omega), if_neg (by omega)]
  · rintro ⟨t, c, d⟩ ⟨h1, ⟨h2, h3, h4, h5⟩, h6, h7⟩
    obtain ⟨r1, r2⟩ := rowV_of.2 h2
    obtain ⟨q1, q2⟩ := rowV_of.2 h3
    obtain ⟨w1, w2⟩ := rowV_of.2 h7
    refine ⟨⟨rfl, ?_, ⟨r2, q2, w2⟩⟩, ?_⟩
    · have h1 : 0 ≤ t ∧ t ≤ 255 := h1
      simp [mayU, tabB, hasCall, hasRows, inB_iff, hk]
      exact ⟨⟨h1, ⟨⟨r1, q1⟩, h4⟩, h5⟩, h6, w1⟩
    · unfold bytesK matE calE
      dsimp only
      rw [if_neg (by omega), if_neg (by omega), if_neg (by omega)]

theorem upK_stick {b : List Int} (k : Int) (s : Sta) (f : Int × Int × Unit) (hf : s.2 = some f) : (upK b k s).2 = s := by
  obtain ⟨a, g⟩ := s
  obtain rfl : g = some f := hf
  unfold upK
  dsimp only
  split
  · rfl
  · split <;> split <;> rfl

theorem codec_up {b : List Int} (hb : okB b) : Codec b (rdUp b) upV bytesU := by
  have c : Codec b (fun s => rdNum b s.1 s.2 1 4) (fun n => 0 ≤ n ∧ n ≤ 4) (fun n => be (nat64 n) 1) := codec_num hb (by omega) (by omega)
  have h := c.seq (R2 := upK b) (V2 := fun k u => u.1 = k ∧ upV u) (e2 := fun _ => bytesK) (fun k hk => by
    by_cases h4 : k = 4
    · subst h4; exact codec_K4 hb
    by_cases h3 : k = 3
    · subst h3; exact codec_K3 hb
    by_cases h2 : k = 2
    · subst h2; exact codec_K2 hb
    exact codec_K01 hb (by omega)) (fun k => upK_stick k)
  refine h.map (fun u => (u.1, u)) ?_ (f := fun p => p.2) ?_ ?_ ?_
  · intro s
    unfold rdUp upK
    dsimp only
  · intro s _
    unfold rdUp upK
    dsimp only
  · intro u hu
    have hk := (mayU_len hu.1).1
    exact ⟨⟨⟨by dsimp only; omega, by dsimp only; omega⟩, rfl, hu⟩, rfl, rfl⟩
  · rintro ⟨k, u⟩ ⟨h1, h2, h3⟩
    dsimp only at h2
    subst h2
    exact ⟨h3, rfl⟩

theorem encU_cons (u : Up) (l : List Up) : encU (u :: l) = bytesU u ++ encU l := rfl

theorem bytesU_pos (u : Up) : 0 < (bytesU u).length := by
  unfold bytesU
  rw [List.length_append, be_len]
  omega

theorem seqU_enc {b : List Int} (hb : okB b) : ∀ (l l0 : List Up) (a : Nat), (∀ u ∈ l, upV u) → a ≤ b.length → encU l <+: b.drop a → seqU b l.length l0 (a, none) = (l0 ++ l, a + (encU l).length, none)
  | [], l0, a, _, _, _ => by
    rw [List.append_nil]
    rfl
  | u :: l, l0, a, hV, ha, hp => by
    rw [encU_cons] at hp ⊢
    obtain ⟨p1, p2⟩ := pre_drop hp
    have hl := pre_len p1
    rw [List.length_drop] at hl
    have r := (codec_up hb).enc u a (hV u (by simp)) ha p1
    rw [List.drop_drop] at p2
    have ih := seqU_enc hb l (l0 ++ [u]) (a + (bytesU u).length) (fun v hv => hV v (by simp [hv])) (by omega) p2
    rw [List.length_cons, seqU, r]
    dsimp only
    rw [ih, List.length_append, Nat.add_assoc]
    simp

theorem seqU_dec {b : List Int} (hb : okB b) : ∀ (n : Nat) (l0 : List Up) (a : Nat), a ≤ b.length → (seqU b n l0 (a, none)).2.2 = none →
    ∃ l, l.length = n ∧ (∀ u ∈ l, upV u) ∧ (seqU b n l0 (a, none)).1 = l0 ++ l ∧ encU l <+: b.drop a ∧ (seqU b n l0 (a, none)).2.1 = a + (encU l).length
  | 0, l0, a, _, _ => ⟨[], rfl, by simp, by simp [seqU], List.nil_prefix, rfl⟩
  | n + 1, l0, a, ha, hn => by
    rw [seqU] at hn ⊢
    cases hf : (rdUp b (a, none)).2.2 with
    | some f =>
      rw [hf] at hn
      dsimp only at hn
      rw [hf] at hn
      cases hn
    | none =>
      rw [hf] at hn
      dsimp only at hn ⊢
      obtain ⟨d1, d2, d3⟩ := (codec_up hb).dec a ha hf
      have hst := sta_none hf
      rw [d3] at hst
      rw [hst] at hn ⊢
      have hl := pre_len d2
      rw [List.length_drop] at hl
      obtain ⟨l, i1, i2, i3, i4, i5⟩ := seqU_dec hb n _ _ (by omega) hn
      refine ⟨(rdUp b (a, none)).1 :: l, by rw [List.length_cons, i1], ?_, ?_, ?_, ?_⟩
      · intro u hu
        rcases List.mem_cons.1 hu with h | h
        · rw [h]; exact d1
        · exact i2 u h
      · rw [i3]; simp
      · rw [encU_cons]
        obtain ⟨t, ht⟩ := d2
        have := congrArg (List.drop (bytesU (rdUp b (a, none)).1).length) ht
        rw [List.drop_left, List.drop_drop] at this
        rw [← this] at i4
        rw [← ht]
        exact (List.prefix_append_right_inj _).2 i4
      · rw [i5, encU_cons, List.length_append]
        omega

/-- how many updates lie within r bytes -/
def whole : List Up → Nat → Nat
  | [], _ => 0
  | u :: l, r => if (bytesU u).length ≤ r then 1 + whole l (r - (bytesU u).length) else 0

theorem seqU_cut {b : List Int} (hb : okB b) : ∀ (l l0 : List Up) (a : Nat), (∀ u ∈ l, upV u) → a ≤ b.length → b.drop a <+: encU l → (b.drop a).length < (encU l).length →
    ∃ p : Nat, (seqU b l.length l0 (a, none)).2.2 = some (3, (p : Int), ()) ∧ p ≤ b.length ∧ (seqU b l.length l0 (a, none)).1.length = l0.length + whole l (b.length - a)
  | [], l0, a, _, _, _, hl => by simp [encU] at hl
  | u :: l, l0, a, hV, ha, hp, hl => by
    have hlen : (b.drop a).length = b.length - a := List.length_drop
    rw [encU_cons] at hp hl
    rw [List.length_append] at hl
    rw [List.length_cons, seqU, whole]
    by_cases hc : (b.drop a).length < (bytesU u).length
    · have hp1 : b.drop a <+: bytesU u := List.prefix_of_prefix_length_le hp (List.prefix_append _ _) (by omega)
      obtain ⟨p, h1, h2⟩ := (codec_up hb).cut u a (hV u (by simp)) ha hp1 hc
      rw [h1, if_neg (by omega)]
      exact ⟨p, h1, h2, rfl⟩
    · have hp1 : bytesU u <+: b.drop a := List.prefix_of_prefix_length_le (List.prefix_append _ _) hp (by omega)
      have r := (codec_up hb).enc u a (hV u (by simp)) ha hp1
      have hp4 : b.drop (a + (bytesU u).length) <+: encU l := by
        obtain ⟨t, ht⟩ := hp
        refine ⟨t, ?_⟩
        have := congrArg (List.drop (bytesU u).length) ht
        rw [List.drop_left, List.drop_append_of_le_length (by omega), List.drop_drop] at this
        exact this
      obtain ⟨p, h1, h2, h3⟩ := seqU_cut hb l (l0 ++ [u]) (a + (bytesU u).length) (fun v hv => hV v (by simp [hv])) (by omega) hp4 (by rw [List.length_drop]; omega)
      rw [r]
      dsimp only
      rw [if_pos (by omega)]
      refine ⟨p, h1, h2, ?_⟩
      rw [h3, List.length_append, List.length_singleton, show b.length - (a + (bytesU u).length) = b.length - a - (bytesU u).length by omega]
      omega

/-- a batch's bytes -/
def encB (l : List Up) : List Int := [(l.length : Int)] ++ encU l

theorem pre_enc {l : List Up} (hb : okB (encB l)) (hn : l.length ≤ 64) (hV : ∀ u ∈ l, upV u) : preU (encB l) = (l, (encB l).length, none) := by
  have hc := codec_num hb (k := 1) (m := 64) (by omega) (by omega)
  have hbe := be1 (n := (l.length : Int)) (by omega) (by omega)
  have hp : be (nat64 (l.length : Int)) 1 ++ encU l <+: (encB l).drop 0 := by
    rw [hbe]
    exact List.prefix_refl _
  obtain ⟨p1, p2⟩ := pre_drop hp
  have r := hc.enc (l.length : Int) 0 ⟨by omega, by omega⟩ (by omega) p1
  dsimp only at r
  have r : cnt (encB l) = _ := r
  rw [be_len] at r p2
  have hl : (encB l).length = 1 + (encU l).length := by unfold encB; rw [List.length_append]; rfl
  unfold preU
  rw [r]
  dsimp only
  rw [Int.toNat_natCast, seqU_enc hb l [] (0 + 1) hV (by omega) p2, hl]
  simp

theorem pre_dec {b : List Int} (hb : okB b) (hn : endF b (preU b).2 = none) : (preU b).1.length ≤ 64 ∧ (∀ u ∈ (preU b).1, upV u) ∧ encB (preU b).1 = b := by
  have hc := codec_num hb (k := 1) (m := 64) (by omega) (by omega)
  obtain ⟨h1, h2, h3, h4⟩ := cnt_ok hb
  have hf : (preU b).2.2 = none := by
    unfold endF at hn
    cases hs : (preU b).2.2 with
    | none => rfl
    | some f => rw [hs] at hn; cases hn
  have he : ¬ (preU b).2.1 < b.length := by
    unfold endF at hn
    rw [hf] at hn
    dsimp only at hn
    intro h
    rw [if_pos h] at hn
    cases hn
  have hcf : (cnt b).2.2 = none := by
    rcases h4 with h | h
    · unfold preU at hf
      rw [h] at hf
      exact hf
    · exact h
  obtain ⟨d1, d2, d3⟩ := hc.dec 0 (by omega) hcf
  have hst := sta_none hcf
  have d3 : (cnt b).2.1 = 0 + (be (nat64 (cnt b).1) 1).length := d3
  have d2 : be (nat64 (cnt b).1) 1 <+: b.drop 0 := d2
  rw [d3, be_len] at hst
  have hl := pre_len d2
  rw [be_len, List.length_drop] at hl
  unfold preU at hf he ⊢
  rw [hst] at hf he ⊢
  obtain ⟨l, i1, i2, i3, i4, i5⟩ := seqU_dec hb (cnt b).1.toNat [] (0 + 1) (by omega) hf
  rw [i3, List.nil_append]
  rw [i5] at he
  refine ⟨by omega, i2, ?_⟩
  have hl2 := pre_len i4
  rw [List.length_drop] at hl2
  have e1 : encU l = b.drop (0 + 1) := i4.eq_of_length (by rw [List.length_drop]; omega)
  have hbe := be1 (n := (cnt b).1) (by omega) (by omega)
  have t1 := take_pre d2 (be_len _ _)
  rw [hbe, List.drop_zero] at t1
  unfold encB
  rw [e1, i1, show (((cnt b).1.toNat : Nat) : Int) = (cnt b).1 by omega, ← t1, Nat.zero_add, List.take_append_drop]

theorem pre_cut {l : List Up} {n : Nat} (hb : okB ((encB l).take n)) (hn : l.length ≤ 64) (hV : ∀ u ∈ l, upV u) (hc : n < (encB l).length) :
    ∃ p : Nat, (preU ((encB l).take n)).2.2 = some (3, (p : Int), ()) ∧ p ≤ n ∧ (preU ((encB l).take n)).1.length = whole l (n - 1) := by
  have hlen : ((encB l).take n).length = n := by rw [List.length_take]; omega
  have hl : (encB l).length = 1 + (encU l).length := by unfold encB; rw [List.length_append]; rfl
  by_cases h0 : n = 0
  · subst h0
    rw [List.take_zero]
    refine ⟨0, rfl, by omega, ?_⟩
    have : whole l (0 - 1) = 0 := by
      cases l with
      | nil => rfl
      | cons u l =>
        have := bytesU_pos u
        rw [whole, if_neg (by omega)]
    rw [this]
    rfl
  · obtain ⟨m, rfl⟩ : ∃ m, n = m + 1 := ⟨n - 1, by omega⟩
    have hbm : (encB l).take (m + 1) = (l.length : Int) :: (encU l).take m := rfl
    have hcd := codec_num hb (k := 1) (m := 64) (by omega) (by omega)
    have hbe := be1 (n := (l.length : Int)) (by omega) (by omega)
    have hp : be (nat64 (l.length : Int)) 1 <+: ((encB l).take (m + 1)).drop 0 := by
      rw [hbe, hbm]
      exact ⟨(encU l).take m, rfl⟩
    have r := hcd.enc (l.length : Int) 0 ⟨by omega, by omega⟩ (by omega) hp
    have r : cnt ((encB l).take (m + 1)) = _ := r
    rw [be_len] at r
    unfold preU
    rw [r]
    dsimp only
    rw [Int.toNat_natCast]
    have hd : ((encB l).take (m + 1)).drop (0 + 1) = (encU l).take m := rfl
    obtain ⟨p, h1, h2, h3⟩ := seqU_cut hb l [] (0 + 1) hV (by omega) (by rw [hd]; exact List.take_prefix _ _) (by rw [hd, List.length_take]; omega)
    rw [hlen] at h2 h3
    refine ⟨p, h1, h2, ?_⟩
    rw [h3, List.length_nil, Nat.zero_add]

theorem u8_nat {n : Nat} (h : n < 256) : inR .u8 (n : Int) = true := by
  simp [inR, IntKind.min, IntKind.max, IntKind.signed, IntKind.bits]; omega

theorem be_u8 {n m : Nat} : ∀ v ∈ be n m, inR .u8 v = true := by
  intro v hv
  unfold be lrow at hv
  obtain ⟨j, _, rfl⟩ := List.mem_map.1 hv
  exact u8_nat (by omega)

theorem enc_u8 {w : Int} {x : Nat} : ∀ v ∈ enc w x, inR .u8 v = true := by
  intro v hv
  cases hm : may w x with
  | false =>
    unfold enc at hv
    rw [hm, cond_false] at hv
    rw [List.mem_singleton.1 hv]; rfl
  | true =>
    obtain ⟨h1, h2, _⟩ := may_of hm
    rw [enc_eq hm] at hv
    rcases List.mem_append.1 hv with h | h
    · rw [List.mem_singleton.1 h]
      have := u8_nat (n := w.toNat) (by omega)
      rw [show ((w.toNat : Nat) : Int) = w by omega] at this
      exact this
    · exact be_u8 v h

theorem encs_u8 : ∀ (l : List V4), ∀ v ∈ encs l, inR .u8 v = true
  | [], v, hv => by simp [encs] at hv
  | a :: l, v, hv => by
    rcases List.mem_append.1 hv with h | h
    · exact enc_u8 v h
    · exact encs_u8 l v h

theorem encVecs_u8 {l : List V4} : ∀ v ∈ encVecs l, inR .u8 v = true := by
  intro v hv
  unfold encVecs at hv
  by_cases h : l.length ≤ 255
  · rw [if_pos h] at hv
    rcases List.mem_cons.1 hv with h | h
    · rw [h]; exact u8_nat (by omega)
    · exact encs_u8 l v h
  · rw [if_neg h] at hv
    rw [List.mem_singleton.1 hv]; rfl

theorem encNums_u8 {l : List Int} : ∀ v ∈ encNums l, inR .u8 v = true := by
  intro v hv
  unfold encNums at hv
  by_cases h : l.length ≤ 255
  · rw [if_pos h] at hv
    rcases List.mem_cons.1 hv with h | h
    · rw [h]; exact u8_nat (by omega)
    · obtain ⟨j, _, rfl⟩ := List.mem_map.1 h
      rw [wu8]
      have := u8_nat (n := (j % 256).toNat) (by omega)
      rw [show (((j % 256).toNat : Nat) : Int) = j % 256 by omega] at this
      exact this
  · rw [if_neg h] at hv
    rw [List.mem_singleton.1 hv]; rfl

theorem bytesU_u8 {u : Up} : ∀ v ∈ bytesU u, inR .u8 v = true := by
  intro v hv
  unfold bytesU at hv
  rcases List.mem_append.1 hv with h | h
  · exact be_u8 v h
  split at h
  · rcases List.mem_append.1 h with h | h
    · exact be_u8 v h
    · exact encNums_u8 v h
  · rcases List.mem_append.1 h with h | h
    · exact be_u8 v h
    rcases List.mem_append.1 h with h | h
    · split at h
      · simp at h
      · rcases List.mem_append.1 h with h | h
        · exact encVecs_u8 v h
        rcases List.mem_append.1 h with h | h
        · exact encVecs_u8 v h
        rcases List.mem_append.1 h with h | h
        · exact be_u8 v h
        · exact be_u8 v h
    · split at h
      · simp at h
      · rcases List.mem_append.1 h with h | h
        · exact be_u8 v h
        · exact encVecs_u8 v h

theorem encU_u8 {l : List Up} : ∀ v ∈ encU l, inR .u8 v = true := by
  intro v hv
  obtain ⟨u, _, h⟩ := List.mem_flatMap.1 hv
  exact bytesU_u8 v h

end Go.L
