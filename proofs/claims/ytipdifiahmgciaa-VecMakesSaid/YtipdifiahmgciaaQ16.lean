/- The functions that the statements reach as plain Lean, and what they compute. -/
import Derived.Test.YtipdifiahmgciaaQ15

namespace Go.L
open Go Go.Pv
set_option maxRecDepth 100000

theorem subL_take {α : Type} {s : List α} {i : Nat} (h : i ≤ s.length) : subL s 0 (i : Int) = some (s.take i) := by
  unfold subL
  rw [if_pos (by omega)]
  simp

theorem subL_drop {α : Type} {s : List α} {i : Nat} (h : i ≤ s.length) : subL s (i : Int) (s.length : Int) = some (s.drop i) := by
  unfold subL
  rw [if_pos (by omega)]
  simp

theorem cut_some {s : List Int} {i : Nat} (hs : s.length ≤ 1000000) (h : (List.range s.length).find? (fun i => decide (s.getD i 0 = 39)) = some i) : strings_Cut s [39] = some ((s.take i, s.drop (i + 1), true, ()), ()) := by
  obtain ⟨hp, hi, hall⟩ := List.find?_range_eq_some.1 h
  have hi := List.mem_range.1 hi
  have hix : internal_stringslite_Index s [39] = some (((i : Int), ()), ()) := by
    unfold internal_stringslite_Index
    simp only [gsome, show decide ((([39] : List Int).length : Int) = 0) = false by decide, show decide ((([39] : List Int).length : Int) = 1) = true by decide, Bool.not_false, cond_true, cond_false]
    by_cases e : [39] = s
    · subst e
      have : i = 0 := by simp only [List.length_cons, List.length_nil] at hi; omega
      subst this
      rw [decide_eq_true rfl]
      rfl
    · rw [decide_eq_false e]
      simp only [cond_false]
      show (internal_stringslite_IndexByte s 39).bind _ = _
      unfold internal_stringslite_IndexByte internal_bytealg_IndexByteString indexF idxI
      rw [h]
      rfl
  unfold strings_Cut internal_stringslite_Cut
  rw [hix, Option.bind_some]
  dsimp only
  rw [decide_eq_true (show (i : Int) ≥ 0 by omega), cond_true, subL_take (by omega), Option.bind_some, show IntKind.i64.wrap ((i : Int) + (([39] : List Int).length : Int)) = ((i + 1 : Nat) : Int) from wi64 (by omega), subL_drop (by omega)]
  rfl

theorem cut_none {s : List Int} (h : (List.range s.length).find? (fun i => decide (s.getD i 0 = 39)) = none) : strings_Cut s [39] = some ((s, [], false, ()), ()) := by
  have hall := List.find?_range_eq_none.1 h
  have hix : internal_stringslite_Index s [39] = some ((-1, ()), ()) := by
    unfold internal_stringslite_Index
    simp only [gsome, show decide ((([39] : List Int).length : Int) = 0) = false by decide, show decide ((([39] : List Int).length : Int) = 1) = true by decide, Bool.not_false, cond_true, cond_false]
    have e : ¬ [39] = s := by
      rintro rfl
      have := hall 0 (by decide)
      simp at this
    rw [decide_eq_false e]
    simp only [cond_false]
    show (internal_stringslite_IndexByte s 39).bind _ = _
    unfold internal_stringslite_IndexByte internal_bytealg_IndexByteString indexF idxI
    rw [h]
    rfl
  unfold strings_Cut internal_stringslite_Cut
  rw [hix]
  rfl

/-- what both readings say, and which codes there are -/
theorem parses16 {l : List Int} (hl : l.length < 1000000000) : ∃ w c, w < 340282366920938463463374607431768211456 ∧ word_Parse l 16 = some ((wp w, c, ()), ()) ∧ ref01_Parse l 16 = some ((rowB (BitVec.ofNat 128 w), c, ()), ()) ∧ (c = 0 ∨ c = 3 ∨ c = 4 ∨ c = 7) := by
  by_cases he : l = []
  · subst he
    exact ⟨0, 3, by omega, by rw [word_Parse_empty (by omega)]; rfl, ref01_Parse_empty (by omega), .inr (.inl rfl)⟩
  · refine ⟨_, _, read_lt 16 l 0, word_Parse_ok (b := 16) (by omega) (by omega) he hl, ref01_Parse_ok (b := 16) (by omega) (by omega) he hl, ?_⟩
    unfold read
    split
    · exact .inr (.inr (.inl rfl))
    · split
      · exact .inr (.inr (.inr rfl))
      · exact .inl rfl

theorem wrap_width {n : Nat} (h : n < 18446744073709551616) : decide (1 ≤ IntKind.i64.wrap (n : Int) ∧ IntKind.i64.wrap (n : Int) ≤ 128) = decide (1 ≤ n ∧ n ≤ 128) := by
  refine decide_eq_decide.2 ?_
  by_cases hn : n < 9223372036854775808
  · rw [wrap_i64 (by omega) (by omega)]; omega
  · have : IntKind.i64.wrap (n : Int) = (n : Int) - 18446744073709551616 := by
      simp only [IntKind.wrap, IntKind.signed, IntKind.bits]
      simp
      omega
    rw [this]; omega

theorem vec_New_ok {w : Int} {x : Nat} (h1 : 1 ≤ w) (h2 : w ≤ 128) (hx : x < 340282366920938463463374607431768211456) : vec_New w (wp x).1 (wp x).2.1 = some (((bif decide ((bitLen x : Int) ≤ w) then (vw w x, 0, ()) else ((0, 0, 0, ()), 7, ())) : (Int × Int × Int × Unit) × Int × Unit), ()) := by
  unfold vec_New
  rw [width_ok, Option.bind_some, decide_eq_true (show 1 ≤ w ∧ w ≤ 128 from ⟨h1, h2⟩)]
  simp only [Bool.not_true, cond_false]
  rw [show ((w, (wp x).1, (wp x).2.1, ()) : Int × Int × Int × Unit) = vw w x from rfl, vec_May_ok hx, Option.bind_some]
  have : may w x = decide ((bitLen x : Int) ≤ w) := decide_eq_decide.2 ⟨fun h => h.2, fun h => ⟨⟨h1, h2⟩, h⟩⟩
  rw [this]
  cases decide ((bitLen x : Int) ≤ w) <;> rfl

/-- both read alike -/
theorem vparses {s : List Int} (hs : s.length ≤ 300) : ∃ v c, vec_Parse s = some ((v, c, ()), ()) ∧ ref02_Parse s = some ((v, c, ()), ()) := by
  unfold vec_Parse ref02_Parse
  cases hf : (List.range s.length).find? (fun i => decide (s.getD i 0 = 39)) with
  | none =>
    rw [cut_none hf, Option.bind_some]
    have hall := List.find?_range_eq_none.1 hf
    refine ⟨(0, 0, 0, ()), 4, rfl, ?_⟩
    refine loop_up (f := fun (z : ((List Int) × Int × Unit) × ((Int × Int × Int × Unit) × Unit)) => ref02_Parse_s0 z.1.1 z.1.2.1 z.2.1) (fun i => ((s, (i : Int), ()), (0, 0, 0, ()), ())) s.length ?_ ?_ 0 (by omega)
    · intro i hi
      dsimp only
      unfold ref02_Parse_s0
      have h9 : ¬ s.getD i 0 = 39 := by simpa using hall i hi
      rw [decide_eq_true (show (i : Int) < (s.length : Int) by omega), rd_getD hi]
      simp only [gsome, gtrue, cond_true, decide_eq_false h9, Bool.not_false, wi64 (show i < 1000000000 by omega)]
    · dsimp only
      unfold ref02_Parse_s0
      rw [decide_eq_false (show ¬ (s.length : Int) < (s.length : Int) by omega), decide_eq_true (show (s.length : Int) = (s.length : Int) from rfl)]
      simp only [gsome, gfalse, cond_false, cond_true, Bool.not_true]
      rfl
  | some i =>
    obtain ⟨hp, hi, hall⟩ := List.find?_range_eq_some.1 hf
    have hi := List.mem_range.1 hi
    have h39 : s.getD i 0 = 39 := of_decide_eq_true hp
    rw [cut_some (by omega) hf, Option.bind_some]
    have key : ∀ r, ref02_Parse_s0 s (i : Int) (0, 0, 0, ()) = some (.inr r) → loopR (fun (z : ((List Int) × Int × Unit) × ((Int × Int × Int × Unit) × Unit)) => ref02_Parse_s0 z.1.1 z.1.2.1 z.2.1) ((s, 0, ()), (0, 0, 0, ()), ()) = some r := by
      intro r hr
      refine loop_up (f := fun (z : ((List Int) × Int × Unit) × ((Int × Int × Int × Unit) × Unit)) => ref02_Parse_s0 z.1.1 z.1.2.1 z.2.1) (fun i => ((s, (i : Int), ()), (0, 0, 0, ()), ())) i ?_ hr 0 (by omega)
      intro j hj
      dsimp only
      unfold ref02_Parse_s0
      have h9 : ¬ s.getD j 0 = 39 := by simpa using hall j hj
      rw [decide_eq_true (show (j : Int) < (s.length : Int) by omega), rd_getD (show j < s.length by omega)]
      simp only [gsome, gtrue, cond_true, decide_eq_false h9, Bool.not_false, wi64 (show j < 1000000000 by omega)]
    have hred : ∀ r, ref02_Parse_s0 s (i : Int) (0, 0, 0, ()) = r ↔ ref02_Parse_s0 s (i : Int) (0, 0, 0, ()) = r := fun _ => Iff.rfl
    have htl : ((s.take i).length : Int) = (i : Int) := by rw [List.length_take]; omega
    obtain ⟨w1, c1, hw1, a1, b1, _⟩ := parses (l := s.take i) (b := 10) (by rw [List.length_take]; omega)
    obtain ⟨w2, c2, hw2, a2, b2, hc2⟩ := parses16 (l := s.drop (i + 1)) (by rw [List.length_drop]; omega)
    have hb : w1 % 18446744073709551616 < 18446744073709551616 := Nat.mod_lt _ (by omega)
    simp only [Bool.not_true, Bool.not_false, gsome, cond_true, cond_false, htl]
    by_cases h3 : (i : Int) > 3
    · rw [decide_eq_true h3]
      refine ⟨_, _, rfl, key _ ?_⟩
      unfold ref02_Parse_s0
      rw [decide_eq_true (show (i : Int) < (s.length : Int) by omega), rd_getD hi, h39]
      simp only [gsome, gtrue, cond_true, cond_false, decide_true, Bool.not_true, decide_eq_false (show ¬ (i : Int) = (s.length : Int) by omega), Bool.not_false, decide_eq_false (show ¬ (i : Int) < 1 by omega), decide_eq_true h3, Option.map_some]
    · rw [decide_eq_false h3]
      simp only [cond_false, a1, a2, Option.bind_some]
      by_cases h0 : i = 0
      · subst h0
        have hc1 : c1 = 3 := by
          have := word_Parse_empty (b := 10) (by omega)
          rw [List.take_zero] at a1
          rw [a1] at this
          exact (Prod.mk.inj (Prod.mk.inj (Prod.mk.inj (Option.some.inj this)).1).2).1
        subst hc1
        refine ⟨(0, 0, 0, ()), 4, rfl, key _ ?_⟩
        unfold ref02_Parse_s0
        rw [decide_eq_true (show ((0 : Nat) : Int) < (s.length : Int) by omega), rd_getD hi, h39]
        simp only [gsome, gtrue, cond_true, cond_false, decide_true, Bool.not_true, decide_eq_false (show ¬ ((0 : Nat) : Int) = (s.length : Int) by omega), Bool.not_false, decide_eq_true (show ((0 : Nat) : Int) < 1 by omega), Option.map_some]
      · obtain ⟨R, hR⟩ : ∃ R, ref02_Parse_s0 s (i : Int) (0, 0, 0, ()) = R := ⟨_, rfl⟩
        have main := hR
        unfold ref02_Parse_s0 at main
        rw [decide_eq_true (show (i : Int) < (s.length : Int) by omega), rd_getD hi, h39] at main
        simp only [gsome, gtrue, cond_true, cond_false, decide_true, Bool.not_true, decide_eq_false (show ¬ (i : Int) = (s.length : Int) by omega), Bool.not_false, decide_eq_false (show ¬ (i : Int) < 1 by omega), decide_eq_false h3, subL_take (show i ≤ s.length by omega), Option.bind_some, b1, b2, show IntKind.i64.wrap ((i : Int) + 1) = ((i + 1 : Nat) : Int) from wi64 (by omega), subL_drop (show i + 1 ≤ s.length by omega), halves_wp hw1, halves_wp hw2, ref01_Len_ok, BitVec.toNat_ofNat, Nat.mod_eq_of_lt (show w2 < 2 ^ 128 from hw2)] at main
        have hlo : (wp w1).2.1 = ((w1 % 18446744073709551616 : Nat) : Int) := rfl
        rw [hlo] at main ⊢
        generalize w1 % 18446744073709551616 = m at hb main ⊢
        by_cases e1 : c1 = 0
        · subst e1
          rcases hc2 with rfl | rfl | rfl | rfl
          · -- both read
            rw [width_ok, wrap_width hb]
            by_cases hm : 1 ≤ m ∧ m ≤ 128
            · have hwm : IntKind.i64.wrap (m : Int) = (m : Int) := wrap_i64 (by omega) (by omega)
              rw [hwm] at main ⊢
              rw [decide_eq_false (show ¬ (m : Int) < 1 by omega), decide_eq_false (show ¬ (m : Int) > 128 by omega)] at main
              simp only [decide_true, show decide ((0 : Int) = 4) = false by decide, show decide ((0 : Int) = 3) = false by decide, Bool.not_true, Bool.not_false, cond_true, cond_false, gtrue, ref01_Len_ok, BitVec.toNat_ofNat, Nat.mod_eq_of_lt (show w2 < 2 ^ 128 from hw2), Option.bind_some] at main
              rw [decide_eq_true hm, vec_New_ok (by omega) (by omega) hw2]
              by_cases hl : (bitLen w2 : Int) ≤ (m : Int)
              · rw [decide_eq_false (show ¬ (bitLen w2 : Int) > (m : Int) by omega)] at main
                rw [decide_eq_true hl]
                exact ⟨_, _, rfl, key _ (hR.trans main.symm)⟩
              · rw [decide_eq_true (show (bitLen w2 : Int) > (m : Int) by omega)] at main
                rw [decide_eq_false hl]
                exact ⟨_, _, rfl, key _ (hR.trans main.symm)⟩
            · have hbad : (bif decide ((m : Int) < 1) then true else (bif !decide ((m : Int) < 1) then decide ((m : Int) > 128) else false)) = true := by
                by_cases h : (m : Int) < 1
                · rw [decide_eq_true h]; rfl
                · rw [decide_eq_false h, decide_eq_true (by omega)]; rfl
              rw [hbad] at main
              rw [decide_eq_false hm]
              exact ⟨_, _, rfl, key _ (hR.trans main.symm)⟩
          · exact ⟨_, _, rfl, key _ (hR.trans main.symm)⟩
          · exact ⟨_, _, rfl, key _ (hR.trans main.symm)⟩
          · rw [width_ok, wrap_width hb]
            by_cases hm : 1 ≤ m ∧ m ≤ 128
            · rw [decide_eq_false (show ¬ (m : Int) < 1 by omega), decide_eq_false (show ¬ (m : Int) > 128 by omega)] at main
              simp only [decide_true, show decide ((7 : Int) = 4) = false by decide, show decide ((7 : Int) = 3) = false by decide, show decide ((7 : Int) = 0) = false by decide, Bool.not_true, Bool.not_false, cond_true, cond_false, gfalse] at main
              rw [decide_eq_true hm]
              exact ⟨_, _, rfl, key _ (hR.trans main.symm)⟩
            · have hbad : (bif decide ((m : Int) < 1) then true else (bif !decide ((m : Int) < 1) then decide ((m : Int) > 128) else false)) = true := by
                by_cases h : (m : Int) < 1
                · rw [decide_eq_true h]; rfl
                · rw [decide_eq_false h, decide_eq_true (by omega)]; rfl
              rw [hbad] at main
              rw [decide_eq_false hm]
              exact ⟨_, _, rfl, key _ (hR.trans main.symm)⟩
        · rw [decide_eq_false e1] at main ⊢
          exact ⟨_, _, rfl, key _ (hR.trans main.symm)⟩

end Go.L
