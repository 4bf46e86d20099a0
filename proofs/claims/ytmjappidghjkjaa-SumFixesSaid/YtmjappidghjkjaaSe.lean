/- SumSwaps holds: the checksum depends on the weighted sum of the bytes only. -/
import Derived.Test.YtmjappidghjkjaaSd
import Derived.Test.YtmjappidghjkjaaSc
namespace Go.Proofs.Ytmjappidghjkjaa
open Go Go.Pv Go.Proofs

theorem fv_add {m n : Int} (hm : 0 ≤ m) (hn : 0 ≤ n) : fv (fv m + n) = fv (m + n) := by
  unfold fv
  repeat' split
  all_goals omega

/-- bytes by their weights -/
def wsum : Bool → List Int → Int
  | _, [] => 0
  | o, c :: b => (if o then c else c * 256) + wsum (!o) b

def wt : Bool → Nat → Int
  | o, 0 => if o then 1 else 256
  | o, j + 1 => wt (!o) j

theorem wsum_nonneg : ∀ (o : Bool) (b : List Int), Bytes b → 0 ≤ wsum o b
  | _, [], _ => by simp [wsum]
  | o, c :: b, h => by
    have h1 := h c (by simp)
    have h2 := wsum_nonneg (!o) b (fun x hx => h x (by simp [hx]))
    simp only [wsum]
    split <;> omega

theorem sumB_wsum : ∀ (b : List Int) (t : Int) (o : Bool), 0 ≤ t → Bytes b → (sumB (fv t, o) b).1 = fv (t + wsum o b)
  | [], t, o, _, _ => by simp [sumB, wsum]
  | c :: b, t, o, ht, h => by
    have h1 := h c (by simp)
    have hadd : addB (fv t, o) c = (fv (t + if o then c else c * 256), !o) := by
      unfold addB
      rw [fv_add ht (by split <;> omega)]
    show (sumB (addB (fv t, o) c) b).1 = _
    rw [hadd, sumB_wsum b _ (!o) (by split <;> omega) (fun x hx => h x (by simp [hx]))]
    simp only [wsum]
    rw [Int.add_assoc]

theorem ck_wsum {b : List Int} (h : Bytes b) : ck b = 65535 - fv (wsum false b) := by
  unfold ck
  have := sumB_wsum b 0 false (by decide) h
  rw [show fv 0 = 0 by decide, Int.zero_add] at this
  rw [this]

theorem wsum_set : ∀ (b : List Int) (o : Bool) (j : Nat) (v : Int) (hj : j < b.length), wsum o (b.set j v) = wsum o b + (v - b[j]) * wt o j
  | c :: b, o, 0, v, _ => by
    cases o
    · simp only [List.set_cons_zero, wsum, wt, List.getElem_cons_zero, Bool.false_eq_true, if_false]; omega
    · simp only [List.set_cons_zero, wsum, wt, List.getElem_cons_zero, if_true]; omega
  | c :: b, o, j + 1, v, hj => by
    simp only [List.set_cons_succ, wsum, wt, List.getElem_cons_succ]
    rw [wsum_set b (!o) j v (by simpa using hj), Int.add_assoc]

theorem wt_even : ∀ (i : Nat) (o : Bool), wt o (2 * i) = if o then 1 else 256
  | 0, o => rfl
  | i + 1, o => by
    show wt o (2 * i + 1 + 1) = _
    simp only [wt, Bool.not_not]
    exact wt_even i o

theorem wt_odd (i : Nat) (o : Bool) : wt o (2 * i + 1) = if o then 256 else 1 := by
  simp only [wt]
  rw [wt_even]
  cases o <;> rfl

theorem wsum_zero : ∀ (b : List Int) (o : Bool), wsum o (b ++ [0]) = wsum o b
  | [], o => by cases o <;> rfl
  | c :: b, o => by simp only [List.cons_append, wsum, wsum_zero b]

theorem orB_true (v : Bool) : orB true v = true := rfl
theorem orB_false (v : Bool) : orB false v = v := rfl

theorem halfN_false {n : Nat} (hn : n ≤ 2000) : halfN false (n : Int) = ((n / 2 : Nat) : Int) := by
  unfold halfN
  simp only [Bool.not_false, cond_true]
  rw [Int.tdiv_eq_ediv_of_nonneg (by omega), wrap_i64 (by omega) (by omega)]
  omega

theorem ckI_nat {i n : Nat} (h : i < n) : ckI (i : Int) n = some () := by
  unfold ckI; rw [if_pos (by omega)]

theorem stI_nat {α : Type} {xs : List α} {i : Nat} (h : i < xs.length) (v : α) : stI xs (i : Int) v = some (xs.set i v) := by
  unfold stI
  rw [if_pos ⟨by omega, by simpa using h⟩]
  simp

theorem roomI_ok {α : Type} {n : Nat} {xs ys : List α} (h : (xs.length + ys.length) * n ≤ 140737488355328) : roomI n xs ys = some (xs ++ ys) := by unfold roomI; rw [if_pos h]

theorem bytes_set {b : List Int} (h : Bytes b) {j : Nat} {v : Int} (hv : 0 ≤ v ∧ v < 256) : Bytes (b.set j v) := by
  intro c hc
  rcases List.mem_or_eq_of_mem_set hc with hc | rfl
  · exact h c hc
  · exact hv

theorem swF_ok {b : List Int} {i k : Int} (hb : Bytes b) : swF b i k = some ((true, ()), ()) := by
  have hlives : ∀ t : Bool, t = true → (bif t then livesF.bind fun l => some (((l.1.1, ()), ()) : (Bool × Unit) × Unit) else (none : Option ((Bool × Unit) × Unit))) = some ((true, ()), ()) := by
    intro t ht; subst ht; rw [livesF_ok]; rfl
  unfold swF
  simp only
  by_cases h1 : (b.length : Int) > 2000
  · rw [decide_eq_true h1, orB_true, orB_true, orB_true, orB_true, cond_true, livesF_ok]; rfl
  rw [decide_eq_false h1, orB_false]
  by_cases h2 : i < 0
  · rw [decide_eq_true h2, orB_true, orB_true, orB_true, cond_true, livesF_ok]; rfl
  rw [decide_eq_false h2, orB_false]
  by_cases h3 : k < 0
  · rw [decide_eq_true h3, orB_true, orB_true, cond_true, livesF_ok]; rfl
  rw [decide_eq_false h3, orB_false, halfN_false (by omega)]
  by_cases h4 : i ≥ ((b.length / 2 : Nat) : Int)
  · rw [decide_eq_true h4, orB_true, cond_true, livesF_ok]; rfl
  rw [decide_eq_false h4, orB_false, halfN_false (by omega)]
  by_cases h5 : k ≥ ((b.length / 2 : Nat) : Int)
  · rw [decide_eq_true h5, cond_true, livesF_ok]; rfl
  rw [decide_eq_false h5, cond_false]
  obtain ⟨i', rfl⟩ : ∃ i' : Nat, i = (i' : Int) := ⟨i.toNat, by omega⟩
  obtain ⟨k', rfl⟩ : ∃ k' : Nat, k = (k' : Int) := ⟨k.toNat, by omega⟩
  have hi2 : IntKind.i64.wrap (2 * (i' : Int)) = ((2 * i' : Nat) : Int) := by rw [wrap_i64 (by omega) (by omega)]; omega
  have hk2 : IntKind.i64.wrap (2 * (k' : Int)) = ((2 * k' : Nat) : Int) := by rw [wrap_i64 (by omega) (by omega)]; omega
  have hi3 : IntKind.i64.wrap (((2 * i' : Nat) : Int) + 1) = ((2 * i' + 1 : Nat) : Int) := by rw [wrap_i64 (by omega) (by omega)]; omega
  have hk3 : IntKind.i64.wrap (((2 * k' : Nat) : Int) + 1) = ((2 * k' + 1 : Nat) : Int) := by rw [wrap_i64 (by omega) (by omega)]; omega
  have li : 2 * i' + 1 < b.length := by omega
  have lk : 2 * k' + 1 < b.length := by omega
  rw [hi2, hk2, hi3, hk3, roomI_ok (xs := []) (by simp; omega)]
  simp only [Option.bind_some, List.nil_append]
  rw [rdI_nat (by omega : 2 * k' < b.length), rdI_nat (by omega : 2 * i' < b.length), rdI_nat lk, rdI_nat li]
  simp only [Option.bind_some]
  rw [ckI_nat (by omega : 2 * i' < b.length)]
  simp only [Option.map_some, Option.bind_some]
  rw [stI_nat (by omega : 2 * i' < b.length)]
  simp only [Option.bind_some]
  rw [ckI_nat (by rw [List.length_set]; omega : 2 * k' < (b.set (2 * i') b[2 * k']).length)]
  simp only [Option.map_some, Option.bind_some]
  rw [stI_nat (by rw [List.length_set]; omega : 2 * k' < (b.set (2 * i') b[2 * k']).length)]
  simp only [Option.bind_some]
  generalize hc2 : (b.set (2 * i') b[2 * k']).set (2 * k') b[2 * i'] = c2
  have l2 : c2.length = b.length := by rw [← hc2]; simp
  rw [ckI_nat (by omega : 2 * i' + 1 < c2.length)]
  simp only [Option.map_some, Option.bind_some]
  rw [stI_nat (by omega : 2 * i' + 1 < c2.length)]
  simp only [Option.bind_some]
  rw [ckI_nat (by rw [List.length_set]; omega : 2 * k' + 1 < (c2.set (2 * i' + 1) b[2 * k' + 1]).length)]
  simp only [Option.map_some, Option.bind_some]
  rw [stI_nat (by rw [List.length_set]; omega : 2 * k' + 1 < (c2.set (2 * i' + 1) b[2 * k' + 1]).length)]
  simp only [Option.bind_some]
  generalize hc4 : (c2.set (2 * i' + 1) b[2 * k' + 1]).set (2 * k' + 1) b[2 * i' + 1] = c4
  rw [roomI_ok (xs := b) (by simp; omega)]
  simp only [Option.bind_some]
  have hbb : ∀ j (h : j < b.length), 0 ≤ b[j] ∧ b[j] < 256 := fun j h => hb _ (List.getElem_mem h)
  have hb2 : Bytes c2 := by rw [← hc2]; exact bytes_set (bytes_set hb (hbb _ _)) (hbb _ _)
  have hb4 : Bytes c4 := by rw [← hc4]; exact bytes_set (bytes_set hb2 (hbb _ _)) (hbb _ _)
  have l4 : c4.length = b.length := by rw [← hc4]; simp [l2]
  have hbz : Bytes (b ++ [0]) := fun c hc => (List.mem_append.1 hc).elim (hb c) (fun h => by simp at h; omega)
  have hw2 : wsum false c2 = wsum false b := by
    rw [← hc2, wsum_set _ _ _ _ (by rw [List.length_set]; omega), wsum_set _ _ _ _ (by omega), wt_even, wt_even]
    by_cases e : i' = k'
    · subst e; simp
    · rw [List.getElem_set_ne (by omega)]; simp; omega
  have hw4 : wsum false c4 = wsum false b := by
    rw [← hw2, ← hc4, wsum_set _ _ _ _ (by rw [List.length_set]; omega), wsum_set _ _ _ _ (by omega), wt_odd, wt_odd]
    have e1 : c2[2 * i' + 1]'(by omega) = b[2 * i' + 1] := by
      subst hc2
      rw [List.getElem_set_ne (by omega), List.getElem_set_ne (by omega)]
    have e2 : c2[2 * k' + 1]'(by omega) = b[2 * k' + 1] := by
      subst hc2
      rw [List.getElem_set_ne (by omega), List.getElem_set_ne (by omega)]
    by_cases e : i' = k'
    · subst e; simp [e1]
    · rw [List.getElem_set_ne (by omega), e1, e2]; simp; omega
  rw [ofF_ok hb4 (by unfold maxLen; omega), ofF_ok hb (by unfold maxLen; omega), ofF_ok hbz (by unfold maxLen; simp; omega), livesF_ok]
  have hck : ck c4 = ck b := by rw [ck_wsum hb4, ck_wsum hb, hw4]
  have hcz : ck (b ++ [0]) = ck b := by rw [ck_wsum hbz, ck_wsum hb, wsum_zero]
  simp [guardR, hck, hcz]

end Go.Proofs.Ytmjappidghjkjaa
