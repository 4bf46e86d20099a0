/- The functions of this seat, and the laws as plain Lean. -/
import Derived.Test.YtffgheglileflaaQ13

set_option linter.unusedSimpArgs false
set_option linter.unusedVariables false

namespace Go.Proofs.Ytffgheglileflaa
open Go Go.Pv Go.Proofs Go.L
set_option maxRecDepth 100000

/-- what is read back of an operation -/
def opV (o : OpW) : Prop := (o.1 = 0 ∧ 0 ≤ o.2.1 ∧ o.2.1 ≤ 255) ∨ (o.1 = 1 ∧ 0 ≤ o.2.1 ∧ o.2.1 ≤ 65535) ∨ (o.1 = 2 ∧ 0 ≤ o.2.1 ∧ o.2.1 ≤ 4294967295) ∨ (o.1 = 3 ∧ vecV o.2.2.2.2.1) ∨ (o.1 = 4 ∧ nameV o.2.2.2.2.2.1)
/-- its bytes -/
def encO (o : OpW) : List Int := if o.1 = 0 then be (nat64 o.2.1) 1 else if o.1 = 1 then be (nat64 o.2.1) 2 else if o.1 = 2 then be (nat64 o.2.1) 4 else if o.1 = 3 then encV o.2.2.2.2.1 else encName o.2.2.2.2.2.1
/-- where a reading stands behind it -/
def stO (b : List Int) (s : Sta) (o : OpW) : Sta :=
  if o.1 = 0 then (rdNum b s.1 s.2 1 255).2 else if o.1 = 1 then (rdNum b s.1 s.2 2 65535).2 else if o.1 = 2 then (rdNum b s.1 s.2 4 4294967295).2 else if o.1 = 3 then (rdVec b s).2 else (rdName b s).2

theorem encO_len {o : OpW} (h : opV o) : (encO o).length ≤ 200 := by
  unfold encO
  rcases h with ⟨h, _⟩ | ⟨h, _⟩ | ⟨h, _⟩ | ⟨h, h2⟩ | ⟨h, h2⟩
  · simp only [h, if_true, be_len]; omega
  · simp only [h, Int.reduceEq, if_true, if_false, be_len]; omega
  · simp only [h, Int.reduceEq, if_true, if_false, be_len]; omega
  · simp only [h, Int.reduceEq, if_true, if_false]
    have := enc_len o.2.2.2.2.1.1 (vn o.2.2.2.2.1)
    show (enc o.2.2.2.2.1.1 (vn o.2.2.2.2.1)).length ≤ 200
    omega
  · simp only [h, Int.reduceEq, if_true, if_false]
    have := mayS_len h2.1
    unfold encName
    rw [if_pos (by omega), List.length_cons]
    omega

theorem okT_stO {b : List Int} {s : Sta} {o : OpW} (h : okT b s) : okT b (stO b s o) := by
  unfold stO
  split
  · exact h.num
  split
  · exact h.num
  split
  · exact h.num
  split
  · exact h.vec
  · exact h.name

theorem stO_stick {b : List Int} (hb : okB b) {s : Sta} {o : OpW} {f : Int × Int × Unit} (hf : s.2 = some f) : stO b s o = s := by
  obtain ⟨a, g⟩ := s
  obtain rfl : g = some f := hf
  unfold stO
  split
  · rfl
  split
  · rfl
  split
  · rfl
  split
  · rfl
  · rfl

theorem n255 : ((255 : Int) < (256 ^ 1 : Nat)) := by decide
theorem n65535 : ((65535 : Int) < (256 ^ 2 : Nat)) := by decide
theorem n4 : ((4294967295 : Int) < (256 ^ 4 : Nat)) := by decide

theorem stO_enc {b : List Int} (hb : okB b) {a : Nat} {o : OpW} (h : opV o) (ha : a ≤ b.length) (hp : encO o <+: b.drop a) : stO b (a, none) o = (a + (encO o).length, none) := by
  unfold encO at hp ⊢
  unfold stO
  rcases h with ⟨h, h1⟩ | ⟨h, h1⟩ | ⟨h, h1⟩ | ⟨h, h1⟩ | ⟨h, h1⟩
  · simp only [h, if_true] at hp ⊢
    exact congrArg (·.2) ((codec_num hb (k := 1) (m := 255) (by omega) n255).enc _ a h1 ha hp)
  · simp only [h, Int.reduceEq, if_true, if_false] at hp ⊢
    exact congrArg (·.2) ((codec_num hb (k := 2) (m := 65535) (by omega) n65535).enc _ a h1 ha hp)
  · simp only [h, Int.reduceEq, if_true, if_false] at hp ⊢
    exact congrArg (·.2) ((codec_num hb (k := 4) (m := 4294967295) (by omega) n4).enc _ a h1 ha hp)
  · simp only [h, Int.reduceEq, if_true, if_false] at hp ⊢
    exact congrArg (·.2) ((codec_vec hb).enc _ a h1 ha hp)
  · simp only [h, Int.reduceEq, if_true, if_false] at hp ⊢
    exact congrArg (·.2) ((codec_name hb).enc _ a h1 ha hp)

theorem stO_cut {b : List Int} (hb : okB b) {a : Nat} {o : OpW} (h : opV o) (ha : a ≤ b.length) (hp : b.drop a <+: encO o) (hl : (b.drop a).length < (encO o).length) : ∃ p : Nat, (stO b (a, none) o).2 = some (3, (p : Int), ()) ∧ p ≤ b.length := by
  unfold encO at hp hl
  unfold stO
  rcases h with ⟨h, h1⟩ | ⟨h, h1⟩ | ⟨h, h1⟩ | ⟨h, h1⟩ | ⟨h, h1⟩
  · simp only [h, if_true] at hp hl ⊢
    exact (codec_num hb (k := 1) (m := 255) (by omega) n255).cut _ a h1 ha hp hl
  · simp only [h, Int.reduceEq, if_true, if_false] at hp hl ⊢
    exact (codec_num hb (k := 2) (m := 65535) (by omega) n65535).cut _ a h1 ha hp hl
  · simp only [h, Int.reduceEq, if_true, if_false] at hp hl ⊢
    exact (codec_num hb (k := 4) (m := 4294967295) (by omega) n4).cut _ a h1 ha hp hl
  · simp only [h, Int.reduceEq, if_true, if_false] at hp hl ⊢
    exact (codec_vec hb).cut _ a h1 ha hp hl
  · simp only [h, Int.reduceEq, if_true, if_false] at hp hl ⊢
    exact (codec_name hb).cut _ a h1 ha hp hl

def encA (l : List OpW) : List Int := l.flatMap encO
def stA (b : List Int) (s : Sta) (l : List OpW) : Sta := l.foldl (stO b) s

theorem encA_len : ∀ {l : List OpW}, (∀ o ∈ l, opV o) → (encA l).length ≤ 200 * l.length
  | [], _ => by simp [encA]
  | o :: l, h => by
    have h1 := encO_len (h o (by simp))
    have h2 := encA_len (l := l) fun x hx => h x (by simp [hx])
    unfold encA at h2 ⊢
    rw [List.flatMap_cons, List.length_append, List.length_cons]
    omega

theorem stA_stick {b : List Int} (hb : okB b) : ∀ (l : List OpW) {s : Sta} {f : Int × Int × Unit}, s.2 = some f → stA b s l = s
  | [], _, _, _ => rfl
  | o :: l, s, f, hf => by
    show stA b (stO b s o) l = s
    rw [stO_stick hb hf]
    exact stA_stick hb l hf

theorem stA_enc {b : List Int} (hb : okB b) : ∀ (l : List OpW) (a : Nat), (∀ o ∈ l, opV o) → a ≤ b.length → encA l <+: b.drop a → stA b (a, none) l = (a + (encA l).length, none)
  | [], a, _, _, _ => rfl
  | o :: l, a, hV, ha, hp => by
    have hp : encO o ++ encA l <+: b.drop a := hp
    obtain ⟨p1, p2⟩ := pre_drop hp
    have hl := pre_len p1
    rw [List.length_drop] at hl
    rw [List.drop_drop] at p2
    show stA b (stO b (a, none) o) l = (a + (encO o ++ encA l).length, none)
    rw [stO_enc hb (hV o (by simp)) ha p1, stA_enc hb l _ (fun x hx => hV x (by simp [hx])) (by omega) p2, List.length_append, Nat.add_assoc]

theorem stA_cut {b : List Int} (hb : okB b) : ∀ (l : List OpW) (a : Nat), (∀ o ∈ l, opV o) → a ≤ b.length → b.drop a <+: encA l → (b.drop a).length < (encA l).length → ∃ p : Nat, (stA b (a, none) l).2 = some (3, (p : Int), ()) ∧ p ≤ b.length
  | [], a, _, _, _, hl => by simp [encA] at hl
  | o :: l, a, hV, ha, hp, hl => by
    have hp : b.drop a <+: encO o ++ encA l := hp
    have hl : (b.drop a).length < (encO o ++ encA l).length := hl
    rw [List.length_append] at hl
    have hlen : (b.drop a).length = b.length - a := List.length_drop
    show ∃ p : Nat, (stA b (stO b (a, none) o) l).2 = some (3, (p : Int), ()) ∧ p ≤ b.length
    by_cases hc : (b.drop a).length < (encO o).length
    · have hp1 : b.drop a <+: encO o := List.prefix_of_prefix_length_le hp (List.prefix_append _ _) (by omega)
      obtain ⟨p, h1, h2⟩ := stO_cut hb (hV o (by simp)) ha hp1 hc
      rw [stA_stick hb l h1]
      exact ⟨p, h1, h2⟩
    · have hp1 : encO o <+: b.drop a := List.prefix_of_prefix_length_le (List.prefix_append _ _) hp (by omega)
      rw [stO_enc hb (hV o (by simp)) ha hp1]
      have hp4 : b.drop (a + (encO o).length) <+: encA l := by
        obtain ⟨t, ht⟩ := hp
        refine ⟨t, ?_⟩
        have := congrArg (List.drop (encO o).length) ht
        rw [List.drop_left, List.drop_append_of_le_length (by omega), List.drop_drop] at this
        exact this
      exact stA_cut hb l _ (fun x hx => hV x (by simp [hx])) (by omega) hp4 (by rw [List.length_drop]; omega)

theorem okT_stA {b : List Int} : ∀ (l : List OpW) {s : Sta}, okT b s → okT b (stA b s l)
  | [], _, h => h
  | o :: l, s, h => okT_stA l (okT_stO (o := o) h)

/-- an operation is written -/
theorem write_is {b : List Int} {o : OpW} (hb : b.length ≤ 500000) (h : opV o) (m e : Int) : ∃ w, law07_write b (o.1, o.2.1, m, e, o.2.2.2.2) = some ((b ++ encO o, w, ()), ()) := by
  unfold law07_write encO
  rcases h with ⟨h, h1⟩ | ⟨h, h1⟩ | ⟨h, h1⟩ | ⟨h, h1⟩ | ⟨h, h1⟩
  · have e1 : wire_put b o.2.1 1 = some ((b ++ be (nat64 o.2.1) 1, ()), ()) := wire_put_ok (m := 1) (by omega) (by omega)
    have e2 : ref07_Number o.2.1 1 = some ((be (nat64 o.2.1) 1, ()), ()) := ref07_Number_ok (m := 1) (by omega)
    unfold wire_Byte
    simp only [h, decide_true, cond_true, if_true, e1, e2, Option.bind_some]
    exact ⟨_, rfl⟩
  · have e1 : wire_put b o.2.1 2 = some ((b ++ be (nat64 o.2.1) 2, ()), ()) := wire_put_ok (m := 2) (by omega) (by omega)
    have e2 : ref07_Number o.2.1 2 = some ((be (nat64 o.2.1) 2, ()), ()) := ref07_Number_ok (m := 2) (by omega)
    unfold wire_Two
    simp only [h, Int.reduceEq, decide_true, decide_false, cond_true, cond_false, if_true, if_false, e1, e2, Option.bind_some]
    exact ⟨_, rfl⟩
  · have e1 : wire_put b o.2.1 4 = some ((b ++ be (nat64 o.2.1) 4, ()), ()) := wire_put_ok (m := 4) (by omega) (by omega)
    have e2 : ref07_Number o.2.1 4 = some ((be (nat64 o.2.1) 4, ()), ()) := ref07_Number_ok (m := 4) (by omega)
    unfold wire_Four
    simp only [h, Int.reduceEq, decide_true, decide_false, cond_true, cond_false, if_true, if_false, e1, e2, Option.bind_some]
    exact ⟨_, rfl⟩
  · obtain ⟨hx, ev⟩ := okV_vw h1.2
    have e1 := wire_Vec_ok (b := b) (w := o.2.2.2.2.1.1) (by omega) hx
    have e2 := ref07_Vec_ok (w := o.2.2.2.2.1.1) hx
    rw [← ev] at e1 e2
    have hz : ((o.2.2.2.2.1.1, o.2.2.2.2.1.2.1, o.2.2.2.2.1.2.2.1, ()) : VV) = o.2.2.2.2.1 := rfl
    simp only [h, Int.reduceEq, decide_true, decide_false, cond_true, cond_false, if_true, if_false, hz, e1, e2, Option.bind_some]
    exact ⟨_, rfl⟩
  · simp only [h, Int.reduceEq, decide_true, decide_false, cond_true, cond_false, if_true, if_false, wire_Name_ok (b := b) (s := o.2.2.2.2.2.1) (by omega), ref07_Name_ok, Option.bind_some]
    exact ⟨_, rfl⟩

theorem clampk (k : Int) : maxI 0 (minI k 2) = if k ≤ 0 then 0 else if k = 1 then 1 else 2 := by
  unfold maxI minI
  split <;> split <;> (try split) <;> (try split) <;> omega

/-- one operation of the writing loop -/
theorem back_step {ops done : List OpW} {cut : Int} {b : List Int} {i : Nat} (hi : i < ops.length) (hn : ops.length ≤ 30) (hb : b.length ≤ 500000) (hd : done.length ≤ 1000) (hv : okV ops[i].2.2.2.2.1) (hs : ∀ v ∈ ops[i].2.2.2.2.2.1, inR .u8 v = true) (hsl : ops[i].2.2.2.2.2.1.length ≤ 600) :
    (opV ops[i] ∧ law07_WireBack_s0 ops cut b done (i : Int) = some (.inl ((ops, cut, b ++ encO ops[i], done ++ [(ops[i].1, ops[i].2.1, 255, 255, ops[i].2.2.2.2)], ((i + 1 : Nat) : Int), ()), ()))) ∨
    law07_WireBack_s0 ops cut b done (i : Int) = some (.inl ((ops, cut, b, done, ((i + 1 : Nat) : Int), ()), ())) := by
  unfold law07_WireBack_s0
  rw [dlt hi, cond_true, rdI_i hi, Option.bind_some, clampk]
  generalize ops[i] = o at *
  have hw := wi64 (show i < 1000000000 by omega)
  have hroom : ∀ z : OpW, roomI 120 done [z] = some (done ++ [z]) := by
    intro z
    unfold roomI
    rw [if_pos (by simp only [List.length_cons, List.length_nil]; omega)]
  have s0 : shlI .i64 1 (IntKind.u64.wrap 0) = some 1 := rfl
  have s1 : shlI .i64 1 (IntKind.u64.wrap 1) = some 2 := rfl
  have s2 : shlI .i64 1 (IntKind.u64.wrap 2) = some 4 := rfl
  have t0 : shlI .i64 1 (IntKind.u64.wrap (IntKind.i64.wrap (8 * 1))) = some 256 := rfl
  have t1 : shlI .i64 1 (IntKind.u64.wrap (IntKind.i64.wrap (8 * 2))) = some 65536 := rfl
  have t2 : shlI .i64 1 (IntKind.u64.wrap (IntKind.i64.wrap (8 * 4))) = some 4294967296 := rfl
  by_cases h0 : o.1 = 0
  · have hW : ∀ h : opV o, ∃ w, law07_write b (o.1, o.2.1, 255, 255, o.2.2.2.2) = some ((b ++ encO o, w, ()), ()) := fun h => write_is hb h 255 255
    rw [if_pos (by omega), s0, Option.bind_some]
    by_cases hx : 0 ≤ o.2.1
    · by_cases hy : o.2.1 < 256
      · have hV : opV o := .inl ⟨h0, by omega, by omega⟩
        obtain ⟨w, hw2⟩ := hW hV
        rw [h0] at hw2
        refine .inl ⟨hV, ?_⟩
        simp only [h0, ge_iff_le, Int.le_refl, decide_true, gtrue, gfalse, Option.bind_some, cond_true, cond_false, Int.reduceLE, decide_eq_true hx, t0, decide_eq_true hy, Bool.not_true, Bool.not_false, Bool.false_and, hw2, hroom, hw]
      · refine .inr ?_
        simp only [h0, ge_iff_le, Int.le_refl, decide_true, decide_false, gtrue, gfalse, Option.bind_some, cond_true, cond_false, Int.reduceLE, Int.reduceEq, decide_eq_true hx, t0, decide_eq_false hy, Bool.not_true, Bool.not_false, Bool.false_and, Bool.and_false, Bool.true_and, hw]
    · refine .inr ?_
      simp only [h0, ge_iff_le, Int.le_refl, decide_true, decide_false, gtrue, gfalse, Option.bind_some, cond_true, cond_false, Int.reduceLE, Int.reduceEq, decide_eq_false hx, Bool.not_true, Bool.not_false, Bool.false_and, Bool.and_false, Bool.true_and, hw]
  by_cases h1 : o.1 = 1
  · have hW : ∀ h : opV o, ∃ w, law07_write b (o.1, o.2.1, 255, 255, o.2.2.2.2) = some ((b ++ encO o, w, ()), ()) := fun h => write_is hb h 255 255
    rw [if_neg (by omega), if_pos h1, s1, Option.bind_some]
    by_cases hx : 0 ≤ o.2.1
    · by_cases hy : o.2.1 < 65536
      · have hV : opV o := .inr (.inl ⟨h1, by omega, by omega⟩)
        obtain ⟨w, hw2⟩ := hW hV
        rw [h1] at hw2
        refine .inl ⟨hV, ?_⟩
        simp only [h1, ge_iff_le, Int.le_refl, decide_true, gtrue, gfalse, Option.bind_some, cond_true, cond_false, Int.reduceLE, decide_eq_true hx, t1, decide_eq_true hy, Bool.not_true, Bool.not_false, Bool.false_and, hw2, hroom, hw]
      · refine .inr ?_
        simp only [h1, ge_iff_le, Int.le_refl, decide_true, decide_false, gtrue, gfalse, Option.bind_some, cond_true, cond_false, Int.reduceLE, Int.reduceEq, decide_eq_true hx, t1, decide_eq_false hy, Bool.not_true, Bool.not_false, Bool.false_and, Bool.and_false, Bool.true_and, hw]
    · refine .inr ?_
      simp only [h1, ge_iff_le, Int.le_refl, decide_true, decide_false, gtrue, gfalse, Option.bind_some, cond_true, cond_false, Int.reduceLE, Int.reduceEq, decide_eq_false hx, Bool.not_true, Bool.not_false, Bool.false_and, Bool.and_false, Bool.true_and, hw]
  by_cases hneg : o.1 < 0
  · refine .inr ?_
    rw [if_pos (by omega), s0, Option.bind_some]
    simp only [ge_iff_le, decide_eq_false (show ¬ 0 ≤ o.1 by omega), decide_eq_false (show ¬ o.1 = 3 by omega), decide_eq_false (show ¬ o.1 = 4 by omega), decide_true, decide_false, gtrue, gfalse, Option.bind_some, cond_true, cond_false, Bool.not_true, Bool.not_false, Bool.false_and, Bool.and_false, Bool.true_and, hw]
  rw [if_neg (by omega), if_neg h1, s2, Option.bind_some]
  by_cases h2 : o.1 = 2
  · have hW : ∀ h : opV o, ∃ w, law07_write b (o.1, o.2.1, 255, 255, o.2.2.2.2) = some ((b ++ encO o, w, ()), ()) := fun h => write_is hb h 255 255
    by_cases hx : 0 ≤ o.2.1
    · by_cases hy : o.2.1 < 4294967296
      · have hV : opV o := .inr (.inr (.inl ⟨h2, by omega, by omega⟩))
        obtain ⟨w, hw2⟩ := hW hV
        rw [h2] at hw2
        refine .inl ⟨hV, ?_⟩
        simp only [h2, ge_iff_le, Int.le_refl, decide_true, gtrue, gfalse, Option.bind_some, cond_true, cond_false, Int.reduceLE, decide_eq_true hx, t2, decide_eq_true hy, Bool.not_true, Bool.not_false, Bool.false_and, hw2, hroom, hw]
      · refine .inr ?_
        simp only [h2, ge_iff_le, Int.le_refl, decide_true, decide_false, gtrue, gfalse, Option.bind_some, cond_true, cond_false, Int.reduceLE, Int.reduceEq, decide_eq_true hx, t2, decide_eq_false hy, Bool.not_true, Bool.not_false, Bool.false_and, Bool.and_false, Bool.true_and, hw]
    · refine .inr ?_
      simp only [h2, ge_iff_le, Int.le_refl, decide_true, decide_false, gtrue, gfalse, Option.bind_some, cond_true, cond_false, Int.reduceLE, Int.reduceEq, decide_eq_false hx, Bool.not_true, Bool.not_false, Bool.false_and, Bool.and_false, Bool.true_and, hw]
  have hge : decide (0 ≤ o.1) = true := decide_eq_true (by omega)
  have hle : decide (o.1 ≤ 2) = false := decide_eq_false (by omega)
  by_cases h3 : o.1 = 3
  · obtain ⟨hvx, hve⟩ := okV_vw hv
    have hmay : ref02_May o.2.2.2.2.1 = some ((may o.2.2.2.2.1.1 (vn o.2.2.2.2.1), ()), ()) := by
      have := ref02_May_ok (w := o.2.2.2.2.1.1) hvx
      rw [← hve] at this
      exact this
    cases hm : may o.2.2.2.2.1.1 (vn o.2.2.2.2.1) with
    | true =>
      have hV : opV o := .inr (.inr (.inr (.inl ⟨h3, hm, hv⟩)))
      obtain ⟨w, hw2⟩ := write_is (m := 255) (e := 255) hb hV
      rw [h3] at hw2
      refine .inl ⟨hV, ?_⟩
      simp only [h3, ge_iff_le, Int.reduceLE, decide_true, decide_false, gtrue, gfalse, Option.bind_some, cond_true, cond_false, Bool.not_true, Bool.not_false, Bool.false_and, Bool.and_false, Bool.true_and, Bool.and_self, hmay, hm, hw2, hroom, hw]
    | false =>
      refine .inr ?_
      simp only [h3, ge_iff_le, Int.reduceLE, Int.reduceEq, decide_true, decide_false, gtrue, gfalse, Option.bind_some, cond_true, cond_false, Bool.not_true, Bool.not_false, Bool.false_and, Bool.and_false, Bool.true_and, Bool.and_self, hmay, hm, hw]
  by_cases h4 : o.1 = 4
  · have hmay := may_ref hs (by omega)
    cases hm : mayS o.2.2.2.2.2.1 with
    | true =>
      have hV : opV o := .inr (.inr (.inr (.inr ⟨h4, hm, hs⟩)))
      obtain ⟨w, hw2⟩ := write_is (m := 255) (e := 255) hb hV
      rw [h4] at hw2
      refine .inl ⟨hV, ?_⟩
      simp only [h4, ge_iff_le, Int.reduceLE, Int.reduceEq, decide_true, decide_false, gtrue, gfalse, Option.bind_some, cond_true, cond_false, Bool.not_true, Bool.not_false, Bool.false_and, Bool.and_false, Bool.true_and, Bool.and_self, hmay, hm, hw2, hroom, hw]
    | false =>
      refine .inr ?_
      simp only [h4, ge_iff_le, Int.reduceLE, Int.reduceEq, decide_true, decide_false, gtrue, gfalse, Option.bind_some, cond_true, cond_false, Bool.not_true, Bool.not_false, Bool.false_and, Bool.and_false, Bool.true_and, Bool.and_self, hmay, hm, hw]
  · refine .inr ?_
    simp only [ge_iff_le, hge, hle, decide_eq_false h3, decide_eq_false h4, decide_true, decide_false, gtrue, gfalse, Option.bind_some, cond_true, cond_false, Bool.not_true, Bool.not_false, Bool.false_and, Bool.and_false, Bool.true_and, hw]

theorem opV_ext {o o' : OpW} (h1 : o'.1 = o.1) (h2 : o'.2.1 = o.2.1) (h3 : o'.2.2.2.2 = o.2.2.2.2) (h : opV o) : opV o' := by
  unfold opV at h ⊢
  rw [h1, h2, h3]
  exact h

/-- one operation of the reading loop -/
theorem read_step {b c : List Int} {done : List OpW} {cut : Int} {w : List Int} {i a : Nat} {s : Sta} (hi : i < done.length) (hn : done.length ≤ 30) (hb : okB b) (hc : okB c) (ha : a ≤ b.length) (hs : okT c s) (hV : opV done[i]) (hp : encO done[i] <+: b.drop a) :
    law07_WireBack_s2 cut w done (i : Int) (rd c (s.1 : Int) s.2) (rd b (a : Int) none) = some (.inl ((cut, w, done, ((i + 1 : Nat) : Int), ()), rd c ((stO c s done[i]).1 : Int) (stO c s done[i]).2, rd b ((a + (encO done[i]).length : Nat) : Int) none, ())) := by
  unfold law07_WireBack_s2
  have hre : (((rd c (s.1 : Int) s.2).1.1, (rd c (s.1 : Int) s.2).1.2.1, (rd c (s.1 : Int) s.2).1.2.2.1, ()), ()) = rd c (s.1 : Int) s.2 := rfl
  have hrb : (((rd b (a : Int) none).1.1, (rd b (a : Int) none).1.2.1, (rd b (a : Int) none).1.2.2.1, ()), ()) = rd b (a : Int) none := rfl
  rw [dlt hi, cond_true, ck_i hi, Option.bind_some, rdI_i hi, Option.bind_some, hre, hrb]
  generalize done[i] = o at *
  have hw := wi64 (show i < 1000000000 by omega)
  have hT : okT b ((a, none) : Sta) := ⟨ha, okF_none⟩
  unfold encO at hp ⊢
  unfold stO
  rcases hV with ⟨h, h1⟩ | ⟨h, h1⟩ | ⟨h, h1⟩ | ⟨h, h1⟩ | ⟨h, h1⟩
  · simp only [h, if_true] at hp ⊢
    have e1 := (codec_num hb (k := 1) (m := 255) (by omega) n255).enc _ a h1 ha hp
    have e2 : wire_Reader_Byte_e57 (rd b (a : Int) none) 255 = _ := byte_rd (s := (a, none)) (most := 255) hb ha
    dsimp only at e1 e2
    rw [e1] at e2
    simp only [decide_true, cond_true, e2, byte_rd hc hs.1, Option.bind_some, Bool.not_true, cond_false, hw]
  · simp only [h, Int.reduceEq, if_true, if_false] at hp ⊢
    have e1 := (codec_num hb (k := 2) (m := 65535) (by omega) n65535).enc _ a h1 ha hp
    have e2 : wire_Reader_Two_e57 (rd b (a : Int) none) 65535 = _ := two_rd (s := (a, none)) (most := 65535) hb ha
    dsimp only at e1 e2
    rw [e1] at e2
    simp only [decide_true, decide_false, cond_true, e2, two_rd hc hs.1, Option.bind_some, Bool.not_true, cond_false, hw]
  · simp only [h, Int.reduceEq, if_true, if_false] at hp ⊢
    have e1 := (codec_num hb (k := 4) (m := 4294967295) (by omega) n4).enc _ a h1 ha hp
    have e2 : wire_Reader_Four_e57 (rd b (a : Int) none) 4294967295 = _ := four_rd (s := (a, none)) (most := 4294967295) hb ha
    dsimp only at e1 e2
    rw [e1] at e2
    simp only [decide_true, decide_false, cond_true, e2, four_rd hc hs.1, Option.bind_some, Bool.not_true, cond_false, hw]
  · simp only [h, Int.reduceEq, if_true, if_false] at hp ⊢
    have e1 := (codec_vec hb).enc _ a h1 ha hp
    have e2 : wire_Reader_Vec_59d (rd b (a : Int) none) = _ := vec_rd (s := (a, none)) hb ha
    rw [e1] at e2
    dsimp only at e2
    simp only [decide_true, decide_false, cond_true, e2, vec_rd hc hs.1, Option.bind_some, Bool.and_self, Bool.not_true, cond_false, hw]
  · simp only [h, Int.reduceEq, if_true, if_false] at hp ⊢
    have e1 := (codec_name hb).enc _ a h1 ha hp
    have e2 : wire_Reader_Name_59d (rd b (a : Int) none) = _ := name_rd (s := (a, none)) hb hT
    rw [e1] at e2
    dsimp only at e2
    simp only [decide_true, decide_false, cond_true, e2, name_rd hc hs, Option.bind_some, Bool.not_true, cond_false, hw]

theorem encA_u8 {l : List OpW} (h : ∀ o ∈ l, opV o) : ∀ v ∈ encA l, inR .u8 v = true := by
  intro v hv
  obtain ⟨o, ho, hv⟩ := List.mem_flatMap.1 hv
  have hV := h o ho
  unfold encO at hv
  rcases hV with ⟨h, h1⟩ | ⟨h, h1⟩ | ⟨h, h1⟩ | ⟨h, h1⟩ | ⟨h, h1⟩
  · simp only [h, if_true] at hv; exact be_u8 v hv
  · simp only [h, Int.reduceEq, if_true, if_false] at hv; exact be_u8 v hv
  · simp only [h, Int.reduceEq, if_true, if_false] at hv; exact be_u8 v hv
  · simp only [h, Int.reduceEq, if_true, if_false] at hv; exact enc_u8 v hv
  · simp only [h, Int.reduceEq, if_true, if_false] at hv
    have hl := mayS_len h1.1
    unfold encName at hv
    rw [if_pos (by omega)] at hv
    rcases List.mem_cons.1 hv with h | h
    · rw [h]; exact u8_nat (by omega)
    · exact h1.2 v h

theorem clampc (cut : Int) (n : Nat) : ∃ k : Nat, maxI 0 (minI cut (n : Int)) = (k : Int) ∧ k ≤ n ∧ (decide (maxI 0 cut ≥ (n : Int)) = decide (k = n)) := by
  unfold maxI minI
  by_cases h1 : cut ≤ (n : Int)
  · rw [if_pos h1]
    by_cases h2 : (0 : Int) ≤ cut
    · refine ⟨cut.toNat, ?_, by omega, decide_eq_decide.2 ?_⟩ <;> (split <;> omega)
    · refine ⟨0, ?_, by omega, decide_eq_decide.2 ?_⟩ <;> (split <;> omega)
  · rw [if_neg h1]
    refine ⟨n, ?_, Nat.le_refl _, decide_eq_decide.2 ?_⟩ <;> (split <;> omega)

theorem back_tail {done : List OpW} (cut : Int) (hn : done.length ≤ 30) (hV : ∀ o ∈ done, opV o) : law07_WireBack_s0 [] cut (encA done) done 0 = some (.inr ((true, ()), ())) := by
  unfold law07_WireBack_s0
  have hlen := encA_len hV
  have hb : okB (encA done) := ⟨encA_u8 hV, by omega⟩
  obtain ⟨k, k1, k2, k3⟩ := clampc cut (encA done).length
  have hc : okB ((encA done).take k) := ⟨fun v hv => hb.u8 v (List.mem_of_mem_take hv), by rw [List.length_take]; omega⟩
  rw [decide_eq_false (by simp), cond_false]
  unfold wire_Read
  rw [bytes_Clone_ok (by omega), Option.bind_some, Option.bind_some, k1, sub_lo k2, Option.bind_some, bytes_Clone_ok (by rw [List.length_take]; omega), Option.bind_some, Option.bind_some]
  dsimp only
  have key := loop_up (f := fun (z : (Int × (List Int) × (List OpW) × Int × Unit) × (Rdr × Rdr × Unit)) => law07_WireBack_s2 z.1.1 z.1.2.1 z.1.2.2.1 z.1.2.2.2.1 z.2.1 z.2.2.1)
    (fun i => ((cut, encA done, done, (i : Int), ()), rd ((encA done).take k) ((stA ((encA done).take k) (0, none) (done.take i)).1 : Int) (stA ((encA done).take k) (0, none) (done.take i)).2, rd (encA done) (((encA (done.take i)).length : Nat) : Int) none, ())) done.length (r := ((true, ()), ()))
    (fun i hi => by
      dsimp only
      have hmem := List.getElem_mem hi
      have hs : okT ((encA done).take k) (stA ((encA done).take k) (0, none) (done.take i)) := okT_stA _ ⟨Nat.zero_le _, okF_none⟩
      have hsplit : encA done = encA (done.take i) ++ (encO done[i] ++ encA (done.drop (i + 1))) := by
        conv => lhs; rw [← List.take_append_drop i done, List.drop_eq_getElem_cons hi]
        unfold encA
        rw [List.flatMap_append, List.flatMap_cons]
      have hdr : (encA done).drop (encA (done.take i)).length = encO done[i] ++ encA (done.drop (i + 1)) := by
        conv => lhs; rw [hsplit]
        rw [List.drop_left]
      have hal : (encA (done.take i)).length ≤ (encA done).length := by rw [hsplit, List.length_append]; omega
      rw [read_step hi hn hb hc hal hs (hV _ hmem) (by rw [hdr]; exact List.prefix_append _ _)]
      have ht : done.take (i + 1) = done.take i ++ [done[i]] := by rw [List.take_add_one, List.getElem?_eq_getElem hi]; rfl
      have e1 : stA ((encA done).take k) (0, none) (done.take (i + 1)) = stO ((encA done).take k) (stA ((encA done).take k) (0, none) (done.take i)) done[i] := by
        rw [ht]
        unfold stA
        rw [List.foldl_append]
        rfl
      have e2 : (encA (done.take (i + 1))).length = (encA (done.take i)).length + (encO done[i]).length := by
        rw [ht]
        unfold encA
        rw [List.flatMap_append, List.length_append]
        simp
      rw [e1, e2])
    (by
      dsimp only
      rw [List.take_length]
      have hS : okT ((encA done).take k) (stA ((encA done).take k) (0, none) done) := okT_stA _ ⟨Nat.zero_le _, okF_none⟩
      unfold law07_WireBack_s2
      have hre : ∀ (c : List Int) (x : Int) (f : Flt), (((rd c x f).1.1, (rd c x f).1.2.1, (rd c x f).1.2.2.1, ()), ()) = rd c x f := fun _ _ _ => rfl
      rw [dge, cond_false, hre, hre, end_rd hc hS, Option.bind_some]
      dsimp only
      have hT : okT (encA done) (((encA done).length, none) : Sta) := ⟨Nat.le_refl _, okF_none⟩
      have hE : wire_Reader_End_59d (rd (encA done) ((encA done).length : Int) none) = some ((.inr (), ()), rd (encA done) ((encA done).length : Int) none, ()) := by
        have h := end_rd (s := ((encA done).length, none)) hb hT
        have h2 : endS (encA done) ((encA done).length, none) = .inr () := by
          unfold endS endF
          dsimp only
          rw [if_neg (by omega)]
        rw [h2] at h
        exact h
      have hL : wire_Reader_Left_59d (rd (encA done) ((encA done).length : Int) none) = some ((0, ()), rd (encA done) ((encA done).length : Int) none, ()) := by
        unfold wire_Reader_Left_59d
        have e1 : IntKind.i64.wrap (((encA done).length : Int) - ((encA done).length : Int)) = 0 := by rw [wrap_i64 (by omega) (by omega)]; omega
        dsimp only
        rw [e1]
      rw [why_end, Option.bind_some, hE, Option.bind_some, k3]
      have hcl : ((encA done).take k).length = k := by rw [List.length_take]; omega
      by_cases hk : k = (encA done).length
      · have hF : endF ((encA done).take k) (stA ((encA done).take k) (0, none) done) = none := by
          have h := stA_enc hc done 0 hV (Nat.zero_le _) (by rw [hk, List.take_length]; exact List.prefix_refl _)
          rw [h]
          unfold endF
          dsimp only
          rw [if_neg (by omega)]
        rw [hF, decide_eq_true hk]
        simp only [isNil1, gtrue, hL, Option.bind_some, decide_true, cond_true, fE, gfalse, Bool.not_true, Bool.and_false, lives_ok, Option.map_some]
      · obtain ⟨p, hp, _⟩ := stA_cut hc done 0 hV (Nat.zero_le _) (by rw [List.drop_zero]; exact List.take_prefix _ _) (by rw [List.drop_zero]; omega)
        have hF : endF ((encA done).take k) (stA ((encA done).take k) (0, none) done) = some (3, (p : Int), ()) := by
          unfold endF
          rw [hp]
        rw [hF, decide_eq_false hk]
        have h30 : decide ((3 : Int) = 0) = false := rfl
        have hq : decide (decide ((3 : Int) = 0) = false) = true := rfl
        simp only [isNil1, gtrue, hL, Option.bind_some, decide_true, cond_true, cond_false, fE, gfalse, h30, hq, Bool.not_true, Bool.not_false, Bool.and_true, Bool.and_false, lives_ok, Option.map_some]
        rfl) 0 (Nat.zero_le _)
  have key : loopR (fun (z : (Int × (List Int) × (List OpW) × Int × Unit) × (Rdr × Rdr × Unit)) => law07_WireBack_s2 z.1.1 z.1.2.1 z.1.2.2.1 z.1.2.2.2.1 z.2.1 z.2.2.1) ((cut, encA done, done, 0, ()), rd ((encA done).take k) 0 none, rd (encA done) 0 none, ()) = some ((true, ()), ()) := key
  exact congrArg (Option.map Sum.inr) key

theorem back_end {ops done : List OpW} {cut : Int} {b : List Int} : law07_WireBack_s0 ops cut b done (ops.length : Int) = (law07_WireBack_s0 [] cut b done 0).map fun x => match x with
    | .inl _ => .inl ((ops, cut, b, done, 0, ()), ())
    | .inr r => .inr r := by
  unfold law07_WireBack_s0
  rw [dge, cond_false, decide_eq_false (by simp), cond_false]
  generalize (wire_Read b).bind _ = z
  cases z <;> rfl

theorem wireBack_ok {ops : List OpW} {cut : Int} (ho : ∀ o ∈ ops, okV o.2.2.2.2.1 ∧ ∀ v ∈ o.2.2.2.2.2.1, inR .u8 v = true) : law07_WireBack ops cut = some ((true, ()), ()) := by
  unfold law07_WireBack
  obtain ⟨r, e, hr⟩ := light_ok ops
  rw [e, Option.bind_some]
  cases r with
  | false => simp only [Bool.not_false, cond_true, lives_ok, Option.bind_some]
  | true =>
    obtain ⟨hl, hs⟩ := hr rfl
    rw [Bool.not_true, cond_false]
    refine loop_inv (f := fun (z : ((List OpW) × Int × (List Int) × (List OpW) × Int × Unit) × Unit) => law07_WireBack_s0 z.1.1 z.1.2.1 z.1.2.2.1 z.1.2.2.2.1 z.1.2.2.2.2.1) (P := fun i x => ∃ done : List OpW, (∀ o ∈ done, opV o) ∧ done.length ≤ i ∧ x = ((ops, cut, encA done, done, (i : Int), ()), ())) (n := ops.length) (r := ((true, ()), ())) ?_ ?_ ops.length 0 _ (by omega) (by omega) ⟨[], by simp, by simp, rfl⟩
    · rintro i x hi ⟨done, hV, hd, rfl⟩
      have hmem := List.getElem_mem hi
      have hlen := encA_len hV
      rcases back_step (done := done) (cut := cut) (b := encA done) hi hl (by omega) (by omega) (ho _ hmem).1 (ho _ hmem).2 (hs _ hmem).1 with ⟨h1, h2⟩ | h2
      · refine ⟨_, h2, done ++ [(ops[i].1, ops[i].2.1, 255, 255, ops[i].2.2.2.2)], ?_, by rw [List.length_append, List.length_singleton]; omega, ?_⟩
        · intro o hm
          rcases List.mem_append.1 hm with h | h
          · exact hV o h
          · rw [List.mem_singleton.1 h]
            exact opV_ext rfl rfl rfl h1
        · have he : encA (done ++ [(ops[i].1, ops[i].2.1, 255, 255, ops[i].2.2.2.2)]) = encA done ++ encO ops[i] := by
            unfold encA
            rw [List.flatMap_append]
            simp only [List.flatMap_cons, List.flatMap_nil, List.append_nil]
            congr 1
          rw [he]
      · exact ⟨_, h2, done, hV, by omega, rfl⟩
    · rintro x ⟨done, hV, hd, rfl⟩
      dsimp only
      rw [back_end, back_tail cut (by omega) hV]
      rfl

/-- what the kit says of an operation that came in -/
theorem okB_of {o : OpW} (h : Wf (.pair (.int .i64) (.pair (.int .i64) (.pair (.int .i64) (.pair (.int .i64) (.pair (.agg (.pair (.int .i64) (.pair (.int .u64) (.pair (.int .u64) .unit)))) (.pair .str (.pair (.slice (.agg (.pair (.int .i64) (.pair (.int .u64) (.pair (.int .u64) .unit))))) (.pair (.slice (.int .i64)) .unit)))))))) o) : okV o.2.2.2.2.1 ∧ ∀ v ∈ o.2.2.2.2.2.1, inR .u8 v = true :=
  ⟨⟨h.2.2.2.2.1.2.1, h.2.2.2.2.1.2.2.1⟩, fun v hv => by
    have := h.2.2.2.2.2.1.1 v hv
    simp [inR, IntKind.min, IntKind.max, IntKind.signed, IntKind.bits]; omega⟩

end Go.Proofs.Ytffgheglileflaa
