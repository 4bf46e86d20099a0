/- The document's sum of words and SumTotals. -/
import Derived.Test.YtmjappidghjkjaaSe
namespace Go.Proofs.Ytmjappidghjkjaa
open Go Go.Pv Go.Proofs

theorem wsum_append : ∀ (a c : List Int) (o : Bool), a.length % 2 = 0 → wsum o (a ++ c) = wsum o a + wsum o c
  | [], c, o, _ => by simp [wsum]
  | [x], c, o, h => by simp at h
  | x :: y :: a, c, o, h => by
    have h2 : a.length % 2 = 0 := by simp at h; omega
    simp only [List.cons_append, wsum, Bool.not_not]
    rw [wsum_append a c o h2]
    omega

def isum : List Int → Int
  | [] => 0
  | x :: l => x + isum l
theorem isum_snoc : ∀ (l : List Int) (x : Int), isum (l ++ [x]) = isum l + x
  | [], x => by simp [isum]
  | y :: l, x => by simp only [List.cons_append, isum, isum_snoc l x]; omega

/-- words of bytes -/
structure Words (b : List Int) (i : Nat) (l : List Int) : Prop where
  len : l.length ≤ i
  small : ∀ w ∈ l, 0 ≤ w ∧ w ≤ 65535
  sum : isum l = wsum false (b.take i)

theorem take_two {b : List Int} {i : Nat} (h : i + 1 < b.length) : b.take (i + 2) = b.take i ++ [b[i], b[i + 1]] := by
  have h1 : b.take (i + 1) = b.take i ++ [b[i]] := List.take_succ_eq_append_getElem (by omega)
  have h2 : b.take (i + 1 + 1) = b.take (i + 1) ++ [b[i + 1]] := List.take_succ_eq_append_getElem h
  rw [show i + 2 = i + 1 + 1 from rfl, h2, h1, List.append_assoc]
  rfl

theorem woF_ok {b : List Int} (hb : Bytes b) (hl : b.length ≤ 1000000) : ∃ l, woF b = some ((l, ()), ()) ∧ l.length ≤ b.length + 1 ∧ (∀ w ∈ l, 0 ≤ w ∧ w ≤ 65535) ∧ isum l = wsum false b := by
  obtain ⟨r, hr, l, rfl, h1, h2, h3⟩ := loopR_inv (f := fun (z : WoS × Unit) => woStep z.1.1 z.1.2.1 z.1.2.2.1)
    (fun z => ∃ (i : Nat) (l : List Int), i ≤ b.length + 1 ∧ i % 2 = 0 ∧ Words b i l ∧ z = ((b, l, (i : Int), ()), ()))
    (fun z => ((b.length : Int) + 2 - z.1.2.2.1).toNat) (fun r => ∃ l : List Int, r = ((l, ()), ()) ∧ l.length ≤ b.length + 1 ∧ (∀ w ∈ l, 0 ≤ w ∧ w ≤ 65535) ∧ isum l = wsum false b)
    (fun z ⟨i, l, hi, he, hw, hz⟩ => by
      subst hz
      simp only
      unfold woStep
      have hlen := hw.len
      by_cases h0 : i < b.length
      · right
        have hc := hb b[i] (List.getElem_mem h0)
        have hw0 : IntKind.i64.wrap b[i] = b[i] := wrap_i64 (by omega) (by omega)
        have hw1 : IntKind.i64.wrap (256 * b[i]) = 256 * b[i] := wrap_i64 (by omega) (by omega)
        have hi1 : IntKind.i64.wrap ((i : Int) + 1) = ((i + 1 : Nat) : Int) := by rw [wrap_i64 (by omega) (by omega)]; omega
        have hi2 : IntKind.i64.wrap ((i : Int) + 2) = ((i + 2 : Nat) : Int) := by rw [wrap_i64 (by omega) (by omega)]; omega
        rw [show decide ((i : Int) < (b.length : Int)) = true from decide_eq_true (by omega), cond_true, hi1, hi2, rdI_nat h0]
        by_cases h1 : i + 1 < b.length
        · have hd := hb b[i + 1] (List.getElem_mem h1)
          have hwd : IntKind.i64.wrap b[i + 1] = b[i + 1] := wrap_i64 (by omega) (by omega)
          rw [show decide (((i + 1 : Nat) : Int) < (b.length : Int)) = true from decide_eq_true (by omega), cond_true, rdI_nat h1]
          simp only [Option.bind_some]
          rw [hw0, hwd, hw1, wrap_i64 (by omega) (by omega), roomI_ok (by simp; omega)]
          refine ⟨_, rfl, ⟨i + 2, l ++ [256 * b[i] + b[i + 1]], by omega, by omega, ⟨by simp; omega, ?_, ?_⟩, rfl⟩, by simp only; omega⟩
          · intro w h
            rcases List.mem_append.1 h with h | h
            · exact hw.small w h
            · simp at h; omega
          · rw [isum_snoc, hw.sum, take_two h1, wsum_append _ _ _ (by rw [List.length_take]; omega)]
            simp [wsum]; omega
        · rw [show decide (((i + 1 : Nat) : Int) < (b.length : Int)) = false from decide_eq_false (by omega), cond_false]
          simp only [Option.bind_some]
          rw [hw0, hw1, wrap_i64 (by omega) (by omega), roomI_ok (by simp; omega)]
          refine ⟨_, rfl, ⟨i + 2, l ++ [256 * b[i] + 0], by omega, by omega, ⟨by simp; omega, ?_, ?_⟩, rfl⟩, by simp only; omega⟩
          · intro w h
            rcases List.mem_append.1 h with h | h
            · exact hw.small w h
            · simp at h; omega
          · have hib : b.length = i + 1 := by omega
            rw [isum_snoc, hw.sum, List.take_of_length_le (show b.length ≤ i + 2 by omega)]
            have : b = b.take i ++ [b[i]] := by
              rw [← List.take_succ_eq_append_getElem h0, List.take_of_length_le (by omega)]
            conv => rhs; rw [this]
            rw [wsum_append _ _ _ (by rw [List.length_take]; omega)]
            simp [wsum]; omega
      · left
        rw [show decide ((i : Int) < (b.length : Int)) = false from decide_eq_false (by omega)]
        refine ⟨_, rfl, l, rfl, by omega, hw.small, ?_⟩
        rw [hw.sum, List.take_of_length_le (by omega)])
    (x := ((b, [], 0, ()), ())) ⟨0, [], by omega, rfl, ⟨by simp, by simp, by simp [isum, wsum]⟩, rfl⟩
  exact ⟨l, hr, h1, h2, h3⟩

theorem to2F_ok {n : Int} (h0 : 0 ≤ n) (h1 : n < 9223372036854775808) : to2F n = some ((fv n, ()), ()) := by
  obtain ⟨r, hr, rfl⟩ := loopR_inv (f := fun (z : (Int × Unit) × Unit) => to2Step z.1.1) (fun z => 0 ≤ z.1.1 ∧ z.1.1 < 9223372036854775808 ∧ fv z.1.1 = fv n) (fun z => z.1.1.toNat) (fun r => r = ((fv n, ()), ()))
    (fun z ⟨k0, k1, k2⟩ => by
      obtain ⟨⟨m, ⟨⟩⟩, ⟨⟩⟩ := z
      simp only at k0 k1 k2 ⊢
      by_cases hm : m > 65535
      · right
        refine ⟨((m / 65536 + m % 65536, ()), ()), ?_, ⟨by show 0 ≤ m / 65536 + m % 65536; omega, by show m / 65536 + m % 65536 < _; omega, by show fv (m / 65536 + m % 65536) = _; rw [fv_step hm, k2]⟩, by show (m / 65536 + m % 65536).toNat < m.toNat; omega⟩
        unfold to2Step
        rw [show decide (m > 65535) = true from decide_eq_true hm, cond_true, Int.tdiv_eq_ediv_of_nonneg k0, Int.tmod_eq_emod_of_nonneg k0, wrap_i64 (n := m / 65536) (by omega) (by omega), wrap_i64 (by omega) (by omega)]
      · left
        refine ⟨((m, ()), ()), ?_, ?_⟩
        · unfold to2Step
          rw [show decide (m > 65535) = false from decide_eq_false hm, cond_false]
        · rw [← k2]; unfold fv; rw [if_pos (by omega)])
    (x := ((n, ()), ())) ⟨h0, h1, rfl⟩
  exact hr

theorem isum_bound : ∀ (l : List Int), (∀ w ∈ l, 0 ≤ w ∧ w ≤ 65535) → 0 ≤ isum l ∧ isum l ≤ 65535 * l.length
  | [], _ => by simp [isum]
  | x :: l, h => by
    have h1 := h x (by simp)
    have h2 := isum_bound l (fun w hw => h w (by simp [hw]))
    simp only [isum, List.length_cons]
    omega

theorem toF_ok {l : List Int} (hw : ∀ w ∈ l, 0 ≤ w ∧ w ≤ 65535) (hl : l.length ≤ 140737488355328) : toF l = some ((fv (isum l), ()), ()) := by
  obtain ⟨r, hr, rfl⟩ := loopR_inv (f := fun (z : ToS × Unit) => toStep z.1.1 z.1.2.1 z.1.2.2.1)
    (fun z => ∃ i : Nat, i ≤ l.length ∧ z = ((l, isum (l.take i), (i : Int), ()), ()))
    (fun z => ((l.length : Int) - z.1.2.2.1).toNat) (fun r => r = ((fv (isum l), ()), ()))
    (fun z ⟨i, hi, hz⟩ => by
      subst hz
      simp only
      unfold toStep
      have hs := isum_bound (l.take i) (fun w h => hw w (List.mem_of_mem_take h))
      rw [List.length_take] at hs
      by_cases h0 : i < l.length
      · right
        have hx := hw l[i] (List.getElem_mem h0)
        rw [show decide ((i : Int) < (l.length : Int)) = true from decide_eq_true (by omega), cond_true, rdI_nat h0]
        simp only [Option.bind_some]
        have hi1 : IntKind.i64.wrap ((i : Int) + 1) = ((i + 1 : Nat) : Int) := by rw [wrap_i64 (by omega) (by omega)]; omega
        rw [hi1, wrap_i64 (by omega) (by omega)]
        refine ⟨_, rfl, ⟨i + 1, by omega, ?_⟩, by simp only; omega⟩
        rw [List.take_succ_eq_append_getElem h0, isum_snoc]
      · left
        rw [show decide ((i : Int) < (l.length : Int)) = false from decide_eq_false (by omega), cond_false, List.take_of_length_le (by omega)]
        rw [List.take_of_length_le (by omega)] at hs
        rw [to2F_ok hs.1 (by omega)]
        exact ⟨_, rfl, rfl⟩)
    (x := ((l, 0, 0, ()), ())) ⟨0, by omega, by simp [isum]⟩
  exact hr

theorem rsF_ok {b : List Int} (hb : Bytes b) (hl : b.length ≤ 1000000) : rsF b = some ((ck b, ()), ()) := by
  obtain ⟨l, h1, h2, h3, h4⟩ := woF_ok hb hl
  unfold rsF
  rw [h1]
  simp only [Option.bind_some]
  have hf := fv_range (wsum_nonneg false b hb)
  rw [toF_ok h3 (by omega), h4]
  simp only [Option.bind_some]
  rw [wrap_i64 (by omega) (by omega), ck_wsum hb]

theorem ck_range {b : List Int} (hb : Bytes b) : 0 ≤ ck b ∧ ck b ≤ 65535 := by
  have := fv_range (wsum_nonneg false b hb)
  rw [ck_wsum hb]; omega

theorem rightF_ok {b : List Int} (hb : Bytes b) (hl : b.length ≤ maxLen) : rightF b = some ((decide (ck b = 0), ()), ()) := by
  unfold rightF
  rw [ofF_ok hb hl]; rfl

theorem ttF_ok {b : List Int} (hb : Bytes b) : ttF b = some ((true, ()), ()) := by
  unfold ttF
  by_cases h : (b.length : Int) > 20000
  · rw [decide_eq_true h, cond_true, livesF_ok]; rfl
  rw [decide_eq_false h, cond_false]
  have hl : b.length ≤ maxLen := by unfold maxLen; omega
  have hr := sumB_range b (0, false) (by decide) hb
  have hc := ck_range hb
  have e : (sumB (0, false) b).1 = 65535 - ck b := by unfold ck; omega
  rw [addF_ok (by decide) hb hl, rsF_ok hb (by omega)]
  simp only [Option.bind_some]
  rw [e, wrap_u16 (n := 65535 - ck b) (by omega) (by omega), wrap_i64 (n := 65535 - ck b) (by omega) (by omega)]
  have e1 : IntKind.u16.wrap (65535 - (65535 - ck b)) = ck b := by rw [wrap_u16 (by omega) (by omega)]; omega
  have e2 : IntKind.i64.wrap (ck b) = ck b := wrap_i64 (by omega) (by omega)
  rw [e1, ofF_ok hb hl, rightF_ok hb hl, livesF_ok]
  simp [guardR, e2]

end Go.Proofs.Ytmjappidghjkjaa
