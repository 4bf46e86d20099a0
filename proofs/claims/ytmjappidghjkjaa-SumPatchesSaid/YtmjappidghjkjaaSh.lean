/- SumPatches and SumFixes as plain laws. -/
import Derived.Test.YtmjappidghjkjaaSg
namespace Go.Proofs.Ytmjappidghjkjaa
open Go Go.Pv Go.Proofs

theorem fv_of {n : Int} (h : 0 < n) : 0 < fv n ∧ fv n ≤ 65535 ∧ fv n % 65535 = n % 65535 := by
  unfold fv
  split <;> omega

theorem fv_congr {m n : Int} (hm : 0 < m) (hn : 0 < n) (h : m % 65535 = n % 65535) : fv m = fv n := by
  have := fv_of hm
  have := fv_of hn
  omega

theorem u8_mod (n : Int) : IntKind.u8.wrap n = n % 256 := by
  simp only [IntKind.wrap, IntKind.signed, IntKind.bits]
  simp
theorem or_word {a c : Int} (ha : 0 ≤ a ∧ a < 256) (hc : 0 ≤ c ∧ c < 256) : bitsI .or .u16 (a * 256) c = a * 256 + c := by
  obtain ⟨m, rfl⟩ : ∃ m : Nat, a = m := ⟨a.toNat, by omega⟩
  obtain ⟨n, rfl⟩ : ∃ n : Nat, c = n := ⟨c.toNat, by omega⟩
  have h1 : (m : Int) * 256 = ((m * 256 : Nat) : Int) := by omega
  rw [h1]
  have key : (BitVec.ofInt 16 ((m * 256 : Nat) : Int) ||| BitVec.ofInt 16 (n : Int)).toNat = m * 256 + n := by
    rw [BitVec.toNat_or, BitVec.ofInt_natCast, BitVec.ofInt_natCast, BitVec.toNat_ofNat, BitVec.toNat_ofNat, Nat.mod_eq_of_lt (show m * 256 < 2 ^ 16 by omega), Nat.mod_eq_of_lt (show n < 2 ^ 16 by omega)]
    have := Nat.shiftLeft_add_eq_or_of_lt (show n < 2 ^ 8 by omega) m
    rw [Nat.shiftLeft_eq] at this
    exact this.symm
  show IntKind.u16.wrap (((BitVec.ofInt 16 ((m * 256 : Nat) : Int) ||| BitVec.ofInt 16 (n : Int)).toNat : Nat) : Int) = _
  rw [key, wrap_u16 (by omega) (by omega)]
  omega

theorem wsum_pos : ∀ (b : List Int) (o : Bool), Bytes b → (∃ c ∈ b, c ≠ 0) → 0 < wsum o b
  | [], o, _, ⟨c, h, _⟩ => by cases h
  | c :: b, o, hb, ⟨x, hx, h0⟩ => by
    have hc := hb c (by simp)
    have hb' : Bytes b := fun y hy => hb y (by simp [hy])
    have hn := wsum_nonneg (!o) b hb'
    simp only [wsum]
    rcases List.mem_cons.1 hx with rfl | hx
    · split <;> omega
    · have := wsum_pos b (!o) hb' ⟨x, hx, h0⟩
      split <;> omega

theorem f15_ok {s o f : Int} (hs : 0 ≤ s ∧ s ≤ 65535) (ho : 0 ≤ o ∧ o ≤ 65535) (hf : 0 ≤ f ∧ f ≤ 65535) : f15 s o f = some ((65535 - fv ((65535 - s) + (65535 - o) + f), ()), ()) := by
  unfold f15
  rw [wrap_u16 (n := 65535 - s) (by omega) (by omega), wrap_u16 (n := 65535 - o) (by omega) (by omega), wrap_u64 (n := 65535 - s) (by omega) (by omega), wrap_u64 (n := 65535 - o) (by omega) (by omega), wrap_u64 (n := 65535 - s + (65535 - o)) (by omega) (by omega), wrap_u64 (n := f) (by omega) (by omega),
    wrap_u64 (by omega) (by omega), show f21 _ = _ from foldF_ok (by omega) (by omega)]
  have := fv_range (n := (65535 - s) + (65535 - o) + f) (by omega)
  simp only [Option.bind_some]
  rw [wrap_u16 (n := fv _) (by omega) (by omega), wrap_u16 (by omega) (by omega)]

def pairAt (b : List Int) (j : Nat) (x y : Int) : List Int := (b.set j x).set (j + 1) y

theorem wsum_pair {b : List Int} {i : Nat} {x y : Int} (h : 2 * i + 1 < b.length) : wsum false (pairAt b (2 * i) x y) = wsum false b + (x - b[2 * i]) * 256 + (y - b[2 * i + 1]) := by
  unfold pairAt
  rw [wsum_set _ _ _ _ (by rw [List.length_set]; omega), wsum_set _ _ _ _ (by omega), wt_even, wt_odd, List.getElem_set_ne (by omega)]
  simp

theorem wsum_ge {b : List Int} (hb : Bytes b) {i : Nat} (h : 2 * i + 1 < b.length) : b[2 * i] * 256 + b[2 * i + 1] ≤ wsum false b := by
  have hz : Bytes (pairAt b (2 * i) 0 0) := bytes_set (bytes_set hb (by omega)) (by omega)
  have h0 := wsum_nonneg false _ hz
  rw [wsum_pair h] at h0
  omega

theorem bytes_pair {b : List Int} (hb : Bytes b) {j : Nat} {x y : Int} (hx : 0 ≤ x ∧ x < 256) (hy : 0 ≤ y ∧ y < 256) : Bytes (pairAt b j x y) := bytes_set (bytes_set hb hx) hy

theorem pair_len {b : List Int} {j : Nat} {x y : Int} : (pairAt b j x y).length = b.length := by simp [pairAt]

theorem f6_loop {g : Int} {c : List Int} (hc : Bytes c) (hl : c.length ≤ 20000) (h : (∃ x ∈ c, x ≠ 0) → g = ck c) :
    loopR (fun (z : (Int × (List Int) × Bool × Int × Unit) × (Unit)) => f6_s0 z.1.1 z.1.2.1 z.1.2.2.1 z.1.2.2.2.1) ((g, c, false, 0, ()), ()) = some ((true, ()), ()) := by
  obtain ⟨r, hr, rfl⟩ := loopR_inv (f := fun (z : (Int × (List Int) × Bool × Int × Unit) × (Unit)) => f6_s0 z.1.1 z.1.2.1 z.1.2.2.1 z.1.2.2.2.1)
    (fun z => ∃ (i : Nat) (s : Bool), i ≤ c.length ∧ (s = true ↔ ∃ x ∈ c.take i, x ≠ 0) ∧ z = ((g, c, s, (i : Int), ()), ()))
    (fun z => ((c.length : Int) - z.1.2.2.2.1).toNat) (fun r => r = ((true, ()), ()))
    (fun z ⟨i, s, hi, hs, hz⟩ => by
      subst hz
      simp only
      unfold f6_s0
      by_cases hlt : i < c.length
      · right
        have hi1 : IntKind.i64.wrap ((i : Int) + 1) = ((i + 1 : Nat) : Int) := by rw [wrap_i64 (by omega) (by omega)]; omega
        have htk : c.take (i + 1) = c.take i ++ [c[i]] := List.take_succ_eq_append_getElem hlt
        rw [show decide ((i : Int) < (c.length : Int)) = true from decide_eq_true (by omega), cond_true, ckI_nat hlt, hi1]
        cases s with
        | true =>
          simp only [Bool.not_true, guardR, Option.map_some, cond_false, rdI_nat (show 0 < c.length by omega), cond_true]
          have : rdI c 0 = some c[0] := rdI_nat (i := 0) (by omega)
          rw [this]
          refine ⟨_, rfl, ⟨i + 1, true, by omega, ?_, rfl⟩, by simp only; omega⟩
          obtain ⟨x, hx, h0⟩ := hs.1 rfl
          exact ⟨fun _ => ⟨x, by rw [htk]; exact List.mem_append_left _ hx, h0⟩, fun _ => rfl⟩
        | false =>
          simp only [Bool.not_false, guardR, Option.map_some, cond_true, cond_false, rdI_nat hlt]
          refine ⟨_, rfl, ⟨i + 1, !decide (c[i] = 0), by omega, ?_, rfl⟩, by simp only; omega⟩
          have hno : ¬ ∃ x ∈ c.take i, x ≠ 0 := fun hh => by simpa using hs.2 hh
          rw [htk]
          constructor
          · intro h0
            exact ⟨c[i], List.mem_append_right _ (by simp), by simpa using h0⟩
          · rintro ⟨x, hx, h0⟩
            rcases List.mem_append.1 hx with hx | hx
            · exact absurd ⟨x, hx, h0⟩ hno
            · obtain rfl : x = c[i] := by simpa using hx
              simpa using h0
      · left
        rw [show decide ((i : Int) < (c.length : Int)) = false from decide_eq_false (by omega), cond_false]
        rw [List.take_of_length_le (by omega)] at hs
        rw [show f11 c = some ((ck c, ()), ()) from ofF_ok hc (by unfold maxLen; omega), show f8 = some ((true, ()), ()) from livesF_ok]
        cases s with
        | false => exact ⟨_, rfl, rfl⟩
        | true =>
          have hg := h (hs.1 rfl)
          subst hg
          simp [guardR])
    (x := ((g, c, false, 0, ()), ())) ⟨0, false, by omega, by simp, rfl⟩
  exact hr

theorem f6_ok {b : List Int} {i f : Int} (hb : Bytes b) (hf : 0 ≤ f ∧ f ≤ 65535) : f6 b i f = some ((true, ()), ()) := by
  have h8 : f8 = some ((true, ()), ()) := livesF_ok
  unfold f6
  simp only
  by_cases h1 : (b.length : Int) > 2000
  · rw [decide_eq_true h1]; simp [h8]
  rw [decide_eq_false h1]
  by_cases h2 : i < 0
  · rw [decide_eq_true h2]; simp [h8]
  rw [decide_eq_false h2]
  simp only [Bool.not_false, cond_true, cond_false]
  have hh : IntKind.i64.wrap ((b.length : Int).tdiv 2) = ((b.length / 2 : Nat) : Int) := by
    rw [Int.tdiv_eq_ediv_of_nonneg (by omega), wrap_i64 (by omega) (by omega)]; omega
  rw [hh]
  by_cases h3 : i ≥ ((b.length / 2 : Nat) : Int)
  · rw [decide_eq_true h3]; simp [h8]
  rw [decide_eq_false h3, cond_false]
  obtain ⟨i', rfl⟩ : ∃ i' : Nat, i = (i' : Int) := ⟨i.toNat, by omega⟩
  have hi2 : IntKind.i64.wrap (2 * (i' : Int)) = ((2 * i' : Nat) : Int) := by rw [wrap_i64 (by omega) (by omega)]; omega
  have hi3 : IntKind.i64.wrap (((2 * i' : Nat) : Int) + 1) = ((2 * i' + 1 : Nat) : Int) := by rw [wrap_i64 (by omega) (by omega)]; omega
  have li : 2 * i' + 1 < b.length := by omega
  have l0 : 2 * i' < b.length := by omega
  have hx := hb _ (List.getElem_mem l0)
  have hy := hb _ (List.getElem_mem li)
  have hck := ck_range hb
  rw [hi2, hi3, rdI_nat l0, rdI_nat li]
  simp only [Option.bind_some]
  rw [wrap_u16 (n := b[2 * i']) (by omega) (by omega), show (2 : Int) ^ 8 = 256 by decide, wrap_u16 (n := b[2 * i'] * 256) (by omega) (by omega), wrap_u16 (n := b[2 * i' + 1]) (by omega) (by omega), or_word hx hy,
    show f11 b = some ((ck b, ()), ()) from ofF_ok hb (by unfold maxLen; omega)]
  simp only [Option.bind_some]
  rw [f15_ok hck (by omega) hf]
  simp only [Option.bind_some]
  have hfv := fv_range (n := (65535 - ck b) + (65535 - (b[2 * i'] * 256 + b[2 * i' + 1])) + f) (by omega)
  rw [wrap_i64 (n := ck b) (by omega) (by omega), wrap_i64 (n := 65535 - ck b) (by omega) (by omega), wrap_i64 (n := b[2 * i'] * 256 + b[2 * i' + 1]) (by omega) (by omega), wrap_i64 (n := 65535 - _) (by omega) (by omega), wrap_i64 (n := f) (by omega) (by omega),
    show f16 _ = _ from toF_ok (by intro w hw; simp at hw; omega) (by simp)]
  simp only [Option.bind_some, isum]
  rw [show 65535 - ck b + (65535 - (b[2 * i'] * 256 + b[2 * i' + 1]) + (f + 0)) = (65535 - ck b) + (65535 - (b[2 * i'] * 256 + b[2 * i' + 1])) + f by omega]
  rw [wrap_i64 (n := 65535 - fv _) (by omega) (by omega)]
  rw [decide_eq_true rfl, Bool.not_true, cond_false, roomI_ok (by simp; omega)]
  simp only [Option.bind_some, List.nil_append]
  rw [ckI_nat l0]
  simp only [Option.map_some, Option.bind_some]
  rw [stI_nat l0]
  simp only [Option.bind_some]
  rw [ckI_nat (by rw [List.length_set]; exact li)]
  simp only [Option.map_some, Option.bind_some]
  rw [stI_nat (by rw [List.length_set]; exact li)]
  simp only [Option.bind_some]
  have e1 : IntKind.u8.wrap (f.fdiv 256) = f / 256 := by rw [Int.fdiv_eq_ediv_of_nonneg _ (by decide), wrap_u8 (by omega) (by omega)]
  have hp : (b.set (2 * i') (IntKind.u8.wrap (f.fdiv 256))).set (2 * i' + 1) (IntKind.u8.wrap f) = pairAt b (2 * i') (f / 256) (f % 256) := by rw [e1, u8_mod]; rfl
  rw [hp]
  refine f6_loop (bytes_pair hb (by omega) (by omega)) (by rw [pair_len]; omega) fun hnz => ?_
  have hcb : Bytes (pairAt b (2 * i') (f / 256) (f % 256)) := bytes_pair hb (by omega) (by omega)
  have hpos := wsum_pos _ false hcb hnz
  have hge := wsum_ge hb li
  have hw0 := wsum_nonneg false b hb
  rw [ck_wsum hcb, ck_wsum hb] at *
  rw [wsum_pair li] at hpos ⊢
  generalize wsum false b = W at *
  have hfW := fv_range hw0
  have : fv (65535 - (65535 - fv W) + (65535 - (b[2 * i'] * 256 + b[2 * i' + 1])) + f) = fv (W + (f / 256 - b[2 * i']) * 256 + (f % 256 - b[2 * i' + 1])) := by
    have hW : 0 < W → 0 < fv W ∧ fv W % 65535 = W % 65535 := fun h => ⟨(fv_of h).1, (fv_of h).2.2⟩
    have hW0 : W = 0 → fv W = 0 := fun h => by subst h; rfl
    refine fv_congr (by omega) hpos (by omega)
  omega

/-! ### SumFixes -/
def placeB (b : List Int) (at_ : Int) : Bool := decide (0 ≤ at_ ∧ at_ % 2 = 0 ∧ at_ + 2 ≤ b.length)

theorem place_eq {b : List Int} {at_ : Int} (hl : b.length ≤ 2000) (ha : at_ < 9223372036854775808) :
    (let t6_1 : Bool := decide (at_ ≥ 0)
  let t11_4 : Bool := bif t6_1 then (bif t6_1 then decide ((bif t6_1 then at_.tmod 2 else 0) = 0) else false) else false
  (bif t11_4 then (bif t11_4 then decide (at_ ≤ (bif t11_4 then IntKind.i64.wrap ((bif t11_4 then (b.length : Int) else 0) - 2) else 0)) else false) else false)) = placeB b at_ := by
  have hw : IntKind.i64.wrap ((b.length : Int) - 2) = (b.length : Int) - 2 := wrap_i64 (by omega) (by omega)
  unfold placeB
  by_cases h1 : 0 ≤ at_
  · have hm : at_.tmod 2 = at_ % 2 := Int.tmod_eq_emod_of_nonneg h1
    by_cases h2 : at_ % 2 = 0
    · simp [h1, h2, hm, hw]; omega
    · simp [h1, h2, hm]
  · simp [h1]

theorem f23_ok {b : List Int} {at_ : Int} (hl : b.length ≤ 2000) (ha : at_ < 9223372036854775808) : f23 b at_ = some ((placeB b at_, ()), ()) := by
  rw [← place_eq hl ha]; rfl
theorem f19_ok {b : List Int} {at_ : Int} (hl : b.length ≤ 2000) (ha : at_ < 9223372036854775808) : f19 b at_ = some ((placeB b at_, ()), ()) := by
  rw [← place_eq hl ha]; rfl

theorem sumB_cat (b c : List Int) : (sumB ((sumB (0, false) b).1, (sumB (0, false) b).2) c) = sumB (0, false) (b ++ c) := by rw [sumB_append]

theorem sumB_odd : ∀ (b : List Int) (t : Int) (o : Bool), (sumB (t, o) b).2 = if b.length % 2 = 0 then o else !o
  | [], t, o => by simp [sumB]
  | c :: b, t, o => by
    show (sumB (addB (t, o) c) b).2 = _
    have : addB (t, o) c = ((addB (t, o) c).1, !o) := rfl
    rw [this, sumB_odd b]
    cases o <;> simp only [List.length_cons] <;> split <;> split <;> first | rfl | omega

theorem sum_cut {b : List Int} (hb : Bytes b) {i : Nat} (h : 2 * i + 1 < b.length) : (sumB (0, false) (b.take (2 * i) ++ b.drop (2 * i + 2))).1 = fv (wsum false (pairAt b (2 * i) 0 0)) := by
  have hz : Bytes (b.take (2 * i) ++ b.drop (2 * i + 2)) := fun c hc => (List.mem_append.1 hc).elim (fun h => hb c (List.mem_of_mem_take h)) (fun h => hb c (List.mem_of_mem_drop h))
  have := sumB_wsum (b.take (2 * i) ++ b.drop (2 * i + 2)) 0 false (by decide) hz
  rw [show fv 0 = 0 by decide, Int.zero_add] at this
  rw [this, wsum_pair h]
  have e : b = b.take (2 * i) ++ (b[2 * i] :: b[2 * i + 1] :: b.drop (2 * i + 2)) := by
    conv => lhs; rw [← List.take_append_drop (2 * i) b]
    rw [List.drop_eq_getElem_cons (by omega), List.drop_eq_getElem_cons h]
  have hl : (b.take (2 * i)).length % 2 = 0 := by rw [List.length_take]; omega
  have e2 : wsum false b = wsum false (b.take (2 * i)) + (b[2 * i] * 256 + (b[2 * i + 1] + wsum false (b.drop (2 * i + 2)))) := by
    conv => lhs; rw [e]
    rw [wsum_append _ _ _ hl]
    simp [wsum]
  rw [wsum_append _ _ _ hl, e2]
  congr 1
  omega

theorem subL_nat {α : Type} {xs : List α} {lo hi : Nat} (h1 : lo ≤ hi) (h2 : hi ≤ xs.length) : subL xs (lo : Int) (hi : Int) = some ((xs.take hi).drop lo) := by
  unfold subL
  rw [if_pos (by omega)]
  simp

theorem f17_no {b : List Int} {at_ : Int} (hl : b.length ≤ 2000) (ha : at_ < 9223372036854775808) (h : placeB b at_ = false) : f17 b at_ = some ((0, false, ()), ()) := by
  unfold f17
  rw [f23_ok hl ha, h]
  rfl

theorem f17_ok {b : List Int} {i : Nat} (hb : Bytes b) (hl : b.length ≤ 2000) (h : 2 * i + 1 < b.length) : f17 b ((2 * i : Nat) : Int) = some ((ck (pairAt b (2 * i) 0 0), true, ()), ()) := by
  have hp : placeB b ((2 * i : Nat) : Int) = true := decide_eq_true (by omega)
  have hz : Bytes (pairAt b (2 * i) 0 0) := bytes_pair hb (by omega) (by omega)
  have hck := ck_range hz
  have h2 : IntKind.i64.wrap (((2 * i : Nat) : Int) + 2) = ((2 * i + 2 : Nat) : Int) := by rw [wrap_i64 (by omega) (by omega)]; omega
  unfold f17
  rw [f23_ok hl (by omega), hp, h2]
  simp only [Option.bind_some, Bool.not_true, cond_false]
  have s1 := subL_nat (xs := b) (lo := 0) (hi := 2 * i) (by omega) (by omega)
  have s2 := subL_nat (xs := b) (lo := 2 * i + 2) (hi := b.length) (by omega) (by omega)
  simp only [List.drop_zero, Int.natCast_zero, List.take_length] at s1 s2
  have hb1 : Bytes (b.take (2 * i)) := fun c hc => hb c (List.mem_of_mem_take hc)
  have hb2 : Bytes (b.drop (2 * i + 2)) := fun c hc => hb c (List.mem_of_mem_drop hc)
  rw [s1, s2]
  simp only [Option.bind_some]
  have hr1 := sumB_range (b.take (2 * i)) (0, false) (by decide) hb1
  rw [show f9 (0, false, ()) (b.take (2 * i)) = _ from addF_ok (by decide) hb1 (by rw [List.length_take]; unfold maxLen; omega)]
  simp only [Option.bind_some]
  rw [show f9 _ (b.drop (2 * i + 2)) = _ from addF_ok hr1 hb2 (by rw [List.length_drop]; unfold maxLen; omega)]
  simp only [Option.bind_some]
  rw [show ((sumB (0, false) (b.take (2 * i))).1, (sumB (0, false) (b.take (2 * i))).2) = sumB (0, false) (b.take (2 * i)) from rfl, ← sumB_append, sum_cut hb h]
  have hf := fv_range (wsum_nonneg false _ hz)
  rw [ck_wsum hz, wrap_u16 (n := fv _) (by omega) (by omega), wrap_u16 (by omega) (by omega)]

theorem f7_step {b c : List Int} {a s J J1 A1 cj bj c0 : Int} (hJ : J < (b.length : Int)) (h1 : IntKind.i64.wrap (a + 1) = A1) (hj1 : IntKind.i64.wrap (J + 1) = J1) (hck : ckI J c.length = some ()) (h00 : rdI c 0 = some c0) (hcj : rdI c J = some cj) (hbj : rdI b J = some bj) (h : J ≠ a → J ≠ A1 → cj = bj) :
    f7_s0 b a s c J = some (.inl ((b, a, s, c, J1, ()), ())) := by
  unfold f7_s0
  simp only [hJ, h1, hj1, hck, hbj, decide_true, cond_true, Option.map_some]
  by_cases e1 : J = a
  · simp [guardR, e1, h00]
  · by_cases e2 : J = A1
    · have e3 : ¬ A1 = a := fun h => e1 (e2.trans h)
      simp [guardR, e3, e2, h00]
    · simp [guardR, e1, e2, hcj, h e1 e2]

theorem f7_end {b c : List Int} {a s J A1 x y : Int} (hJ : ¬ J < (b.length : Int)) (h1 : IntKind.i64.wrap (a + 1) = A1) (hc0 : ckI a c.length = some ()) (hr0 : rdI c a = some x) (hc1 : ckI A1 c.length = some ()) (hr1 : rdI c A1 = some y)
    (hx : IntKind.i64.wrap x = IntKind.i64.wrap ((IntKind.i64.wrap s).tdiv 256)) (hy : IntKind.i64.wrap y = (IntKind.i64.wrap s).tmod 256) : f7_s0 b a s c J = some (.inr ((true, ()), ())) := by
  unfold f7_s0
  simp only [hJ, h1, hc0, hr0, hc1, hr1, decide_false, cond_false, Option.map_some, Option.bind_some, hx, hy, decide_true, cond_true, guardR, show f8 = some ((true, ()), ()) from livesF_ok]

theorem f7_loop {b c : List Int} {i : Nat} {s : Int} (hb : Bytes b) (hl : b.length ≤ 2000) (h : 2 * i + 1 < b.length) (hs : 0 ≤ s ∧ s ≤ 65535) (hc : c = pairAt b (2 * i) (s / 256) (s % 256)) :
    loopR (fun (z : ((List Int) × Int × Int × (List Int) × Int × Unit) × (Unit)) => f7_s0 z.1.1 z.1.2.1 z.1.2.2.1 z.1.2.2.2.1 z.1.2.2.2.2.1) ((b, ((2 * i : Nat) : Int), s, c, 0, ()), ()) = some ((true, ()), ()) := by
  have hcl : c.length = b.length := by rw [hc, pair_len]
  have hrest : ∀ j (hj : j < b.length), j ≠ 2 * i → j ≠ 2 * i + 1 → c[j]'(by omega) = b[j] := by
    intro j hj h1 h2
    subst hc
    unfold pairAt
    rw [List.getElem_set_ne (by omega), List.getElem_set_ne (by omega)]
  have hc0 : c[2 * i]'(by omega) = s / 256 := by
    subst hc; unfold pairAt
    rw [List.getElem_set_ne (by omega), List.getElem_set_self]
  have hc1 : c[2 * i + 1]'(by omega) = s % 256 := by
    subst hc; unfold pairAt
    rw [List.getElem_set_self]
  have h1 : IntKind.i64.wrap (((2 * i : Nat) : Int) + 1) = ((2 * i + 1 : Nat) : Int) := by rw [wrap_i64 (by omega) (by omega)]; omega
  obtain ⟨r, hr, rfl⟩ := loopR_inv (f := fun (z : ((List Int) × Int × Int × (List Int) × Int × Unit) × (Unit)) => f7_s0 z.1.1 z.1.2.1 z.1.2.2.1 z.1.2.2.2.1 z.1.2.2.2.2.1)
    (fun z => ∃ j : Nat, j ≤ b.length ∧ z = ((b, ((2 * i : Nat) : Int), s, c, (j : Int), ()), ()))
    (fun z => ((b.length : Int) - z.1.2.2.2.2.1).toNat) (fun r => r = ((true, ()), ()))
    (fun z ⟨j, hj, hz⟩ => by
      subst hz
      simp only
      unfold f7_s0
      by_cases hlt : j < b.length
      · right
        have hj1 : IntKind.i64.wrap ((j : Int) + 1) = ((j + 1 : Nat) : Int) := by rw [wrap_i64 (by omega) (by omega)]; omega
        refine ⟨((b, ((2 * i : Nat) : Int), s, c, ((j + 1 : Nat) : Int), ()), ()), ?_, ⟨j + 1, by omega, rfl⟩, by simp only; omega⟩
        exact f7_step (by omega) h1 hj1 (ckI_nat (by omega)) (rdI_nat (i := 0) (by omega)) (rdI_nat (by omega)) (rdI_nat hlt) (fun d1 d2 => hrest j hlt (by omega) (by omega))
      · left
        refine ⟨((true, ()), ()), ?_, rfl⟩
        refine f7_end (by omega) h1 (ckI_nat (by omega)) (rdI_nat (by omega)) (ckI_nat (by omega)) (rdI_nat (by omega)) ?_ ?_
        · rw [hc0, wrap_i64 (n := s) (by omega) (by omega), Int.tdiv_eq_ediv_of_nonneg hs.1]
        · rw [hc1, wrap_i64 (n := s) (by omega) (by omega), wrap_i64 (n := s % 256) (by omega) (by omega), Int.tmod_eq_emod_of_nonneg hs.1])
    (x := ((b, ((2 * i : Nat) : Int), s, c, 0, ()), ())) ⟨0, by omega, rfl⟩
  exact hr

theorem f7_ok {b : List Int} {at_ : Int} (hb : Bytes b) (ha : -9223372036854775808 ≤ at_ ∧ at_ < 9223372036854775808) : f7 b at_ = some ((true, ()), ()) := by
  have h8 : f8 = some ((true, ()), ()) := livesF_ok
  unfold f7
  simp only
  by_cases h0 : (b.length : Int) > 2000
  · rw [decide_eq_true h0]; simp [h8]
  rw [decide_eq_false h0, cond_false]
  have hl : b.length ≤ 2000 := by omega
  rw [f19_ok hl ha.2]
  cases hp : placeB b at_ with
  | false =>
    have h18 : f18 b at_ = some (([], false, ()), ()) := by
      unfold f18
      rw [f17_no hl ha.2 hp]; rfl
    rw [f17_no hl ha.2 hp, h18]
    simp [guardR, h8]
  | true =>
    have hp' := of_decide_eq_true hp
    obtain ⟨i, rfl⟩ : ∃ i : Nat, at_ = ((2 * i : Nat) : Int) := ⟨(at_ / 2).toNat, by omega⟩
    have h : 2 * i + 1 < b.length := by omega
    have hz : Bytes (pairAt b (2 * i) 0 0) := bytes_pair hb (by omega) (by omega)
    have hs := ck_range hz
    rw [f17_ok hb hl h]
    have h1 : IntKind.i64.wrap (((2 * i : Nat) : Int) + 1) = ((2 * i + 1 : Nat) : Int) := by rw [wrap_i64 (by omega) (by omega)]; omega
    have h18 : f18 b ((2 * i : Nat) : Int) = some ((pairAt b (2 * i) (ck (pairAt b (2 * i) 0 0) / 256) (ck (pairAt b (2 * i) 0 0) % 256), true, ()), ()) := by
      unfold f18
      rw [f17_ok hb hl h]
      generalize ck (pairAt b (2 * i) 0 0) = s at hs
      have h24 : f24 b = some ((b, ()), ()) := by
        unfold f24
        have : notNil b = some false := by
          cases b with
          | nil => simp at h
          | cons _ _ => rfl
        rw [this]
        simp only [Option.bind_some, cond_false]
        rw [roomI_ok (by simp; omega)]
        rfl
      rw [h24, h1]
      simp only [Option.bind_some, Bool.not_true, cond_false]
      rw [ckI_nat (by omega : 2 * i < b.length)]
      simp only [Option.map_some, Option.bind_some]
      rw [stI_nat (by omega)]
      simp only [Option.bind_some]
      rw [ckI_nat (by rw [List.length_set]; exact h)]
      simp only [Option.map_some, Option.bind_some]
      rw [stI_nat (by rw [List.length_set]; exact h)]
      simp only [Option.bind_some]
      have e1 : IntKind.u8.wrap (s.fdiv (2 ^ 8)) = s / 256 := by rw [show (2 : Int) ^ 8 = 256 by decide, Int.fdiv_eq_ediv_of_nonneg _ (by decide), wrap_u8 (by omega) (by omega)]
      rw [e1, u8_mod]
      rfl
    have h20 : f20 b ((2 * i : Nat) : Int) = some ((ck (pairAt b (2 * i) 0 0), ()), ()) := by
      unfold f20
      rw [h1, roomI_ok (by simp; omega)]
      simp only [Option.bind_some, List.nil_append]
      rw [ckI_nat (by omega : 2 * i < b.length)]
      simp only [Option.map_some, Option.bind_some]
      rw [stI_nat (by omega)]
      simp only [Option.bind_some]
      rw [ckI_nat (by rw [List.length_set]; exact h)]
      simp only [Option.map_some, Option.bind_some]
      rw [stI_nat (by rw [List.length_set]; exact h)]
      simp only [Option.bind_some]
      rw [show f13 ((b.set (2 * i) 0).set (2 * i + 1) 0) = some ((ck (pairAt b (2 * i) 0 0), ()), ()) from rsF_ok hz (by simp; omega)]
      rfl
    rw [h18, h20]
    have hcb : Bytes (pairAt b (2 * i) (ck (pairAt b (2 * i) 0 0) / 256) (ck (pairAt b (2 * i) 0 0) % 256)) := bytes_pair hb (by omega) (by omega)
    have hck : ck (pairAt b (2 * i) (ck (pairAt b (2 * i) 0 0) / 256) (ck (pairAt b (2 * i) 0 0) % 256)) = 0 := by
      rw [ck_wsum hcb, wsum_pair h]
      rw [ck_wsum hz] at hs ⊢
      have hW0 := wsum_nonneg false _ hz
      have hW := wsum_pair (x := 0) (y := 0) h
      have hb0 := hb _ (List.getElem_mem (by omega : 2 * i < b.length))
      have hb1 := hb _ (List.getElem_mem h)
      generalize wsum false (pairAt b (2 * i) 0 0) = Z at *
      have hfZ := fv_range hW0
      have hpos : 0 < Z → 0 < fv Z ∧ fv Z % 65535 = Z % 65535 := fun h => ⟨(fv_of h).1, (fv_of h).2.2⟩
      have hZ0 : Z = 0 → fv Z = 0 := fun h => by subst h; rfl
      have e : wsum false b + ((65535 - fv Z) / 256 - b[2 * i]) * 256 + ((65535 - fv Z) % 256 - b[2 * i + 1]) = Z + 65535 - fv Z := by omega
      rw [e]
      have hq : 0 < Z + 65535 - fv Z := by omega
      have := fv_of hq
      omega
    have h14 : f14 (pairAt b (2 * i) (ck (pairAt b (2 * i) 0 0) / 256) (ck (pairAt b (2 * i) 0 0) % 256)) = some ((true, ()), ()) := by
      rw [show f14 _ = _ from rightF_ok hcb (by rw [pair_len]; unfold maxLen; omega), hck]; rfl
    have hloop := f7_loop hb hl h hs rfl
    simp only [Option.bind_some, Bool.not_true, cond_false, Bool.not_false, guardR, cond_true]
    rw [wrap_i64 (n := ck _) (by omega) (by omega), h14, pair_len, decide_eq_true rfl, decide_eq_true rfl]
    simp only [Bool.not_true, cond_false, Bool.not_false, cond_true]
    exact hloop

end Go.Proofs.Ytmjappidghjkjaa
