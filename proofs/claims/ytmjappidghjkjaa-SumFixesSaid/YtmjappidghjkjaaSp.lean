/- What the functions of shunter/sum compute: sums of words, what is above 16 bits folded below. -/
import Derived.Test.YtmjappidghjkjaaSa
import Derived.Test.YtmjappidghjkjaaPvLaw
namespace Go.Proofs.Ytmjappidghjkjaa
open Go Go.Pv Go.Proofs

theorem and_low {n : Int} (h0 : 0 ≤ n) (h1 : n < 18446744073709551616) : bitsI .and .u64 n 65535 = n % 65536 := by
  have hn : n = (n.toNat : Int) := by omega
  have hlt : n.toNat < 18446744073709551616 := by omega
  have key : (BitVec.ofInt 64 n &&& BitVec.ofInt 64 65535).toNat = n.toNat % 65536 := by
    rw [BitVec.toNat_and, BitVec.toNat_ofInt, BitVec.toNat_ofInt]
    have e1 : (n % ((2 ^ 64 : Nat) : Int)).toNat = n.toNat := by
      have : ((2 ^ 64 : Nat) : Int) = 18446744073709551616 := by decide
      rw [this, Int.emod_eq_of_lt h0 h1]
    have e2 : ((65535 : Int) % ((2 ^ 64 : Nat) : Int)).toNat = 2 ^ 16 - 1 := by decide
    rw [e1, e2, Nat.and_two_pow_sub_one_eq_mod]
  show IntKind.u64.wrap ((BitVec.ofInt 64 n &&& BitVec.ofInt 64 65535).toNat : Int) = _
  rw [key, wrap_u64 (by omega) (by omega)]
  omega

theorem shr16 {n : Int} (_h0 : 0 ≤ n) : n.fdiv (2 ^ 16) = n / 65536 := by
  rw [Int.fdiv_eq_ediv_of_nonneg _ (by decide)]
  rfl

/-- what is above 16 bits added below, till nothing is above -/
def fv (n : Int) : Int := if n ≤ 65535 then n else (n - 1) % 65535 + 1

theorem fv_range {n : Int} (h : 0 ≤ n) : 0 ≤ fv n ∧ fv n ≤ 65535 := by unfold fv; split <;> omega

theorem fv_step {n : Int} (h : 65535 < n) : fv (n / 65536 + n % 65536) = fv n := by unfold fv; split <;> split <;> omega

theorem foldF_ok {n : Int} (h0 : 0 ≤ n) (h1 : n < 18446744073709551616) : foldF n = some ((fv n, ()), ()) := by
  obtain ⟨r, hr, rfl⟩ := loopR_inv (f := fun (z : (Int × Unit) × Unit) => foldStep z.1.1) (fun z => 0 ≤ z.1.1 ∧ z.1.1 < 18446744073709551616 ∧ fv z.1.1 = fv n) (fun z => z.1.1.toNat) (fun r => r = ((fv n, ()), ()))
    (fun z ⟨k0, k1, k2⟩ => by
      obtain ⟨⟨m, ⟨⟩⟩, ⟨⟩⟩ := z
      simp only at k0 k1 k2 ⊢
      by_cases hm : m > 65535
      · right
        refine ⟨((m / 65536 + m % 65536, ()), ()), ?_, ⟨by show 0 ≤ m / 65536 + m % 65536; omega, by show m / 65536 + m % 65536 < _; omega, by show fv (m / 65536 + m % 65536) = _; rw [fv_step hm, k2]⟩, by show (m / 65536 + m % 65536).toNat < m.toNat; omega⟩
        unfold foldStep
        rw [show decide (m > 65535) = true from decide_eq_true hm, cond_true, and_low k0 k1, shr16 k0, wrap_u64 (by omega) (by omega)]
      · left
        refine ⟨((m, ()), ()), ?_, ?_⟩
        · unfold foldStep
          rw [show decide (m > 65535) = false from decide_eq_false hm, cond_false]
        · rw [← k2]; unfold fv; rw [if_pos (by omega)])
    (x := ((n, ()), ())) ⟨h0, h1, rfl⟩
  exact hr

/-- one byte more -/
def addB (a : Int × Bool) (c : Int) : Int × Bool := (fv (a.1 + if a.2 then c else c * 256), !a.2)

def sumB (a : Int × Bool) (b : List Int) : Int × Bool := b.foldl addB a

def Bytes (b : List Int) : Prop := ∀ c ∈ b, 0 ≤ c ∧ c < 256

theorem addB_range {a : Int × Bool} {c : Int} (h : 0 ≤ a.1) (hc : 0 ≤ c) : 0 ≤ (addB a c).1 ∧ (addB a c).1 ≤ 65535 := by
  unfold addB
  exact fv_range (by split <;> omega)

theorem sumB_range : ∀ (b : List Int) (a : Int × Bool), 0 ≤ a.1 ∧ a.1 ≤ 65535 → Bytes b → 0 ≤ (sumB a b).1 ∧ (sumB a b).1 ≤ 65535
  | [], a, h, _ => h
  | c :: b, a, h, hb => sumB_range b (addB a c) (addB_range h.1 (hb c (by simp)).1) (fun x hx => hb x (by simp [hx]))

theorem sumB_append (a : Int × Bool) (b c : List Int) : sumB a (b ++ c) = sumB (sumB a b) c := List.foldl_append

theorem addF_ok {t : Int} {o : Bool} {b : List Int} (ht : 0 ≤ t ∧ t ≤ 65535) (hb : Bytes b) (hl : b.length ≤ maxLen) : addF (t, o, ()) b = some ((), ((sumB (t, o) b).1, (sumB (t, o) b).2, ()), ()) := by
  have hml : b.length < 9223372036854775808 := by unfold maxLen at hl; omega
  obtain ⟨r, hr, rfl⟩ := loopR_inv (f := fun (z : (List Int × Int × Int × Unit) × (AdT × Unit)) => addStep foldF z.1.1 z.1.2.1 z.1.2.2.1 z.2.1)
    (fun z => ∃ i : Nat, i ≤ b.length ∧ z = ((b, (b.length : Int), (i : Int), ()), (((sumB (t, o) (b.take i)).1, (sumB (t, o) (b.take i)).2, ()), ())))
    (fun z => ((b.length : Int) - z.1.2.2.1).toNat) (fun r => r = ((), ((sumB (t, o) b).1, (sumB (t, o) b).2, ()), ()))
    (fun z ⟨i, hi, hz⟩ => by
      subst hz
      simp only
      have hsr := sumB_range (b.take i) (t, o) ht (fun c hc => hb c (List.mem_of_mem_take hc))
      by_cases hlt : i < b.length
      · right
        have hc := hb b[i] (List.getElem_mem hlt)
        have htk : b.take (i + 1) = b.take i ++ [b[i]] := by rw [List.take_succ_eq_append_getElem hlt]
        have hnext : sumB (t, o) (b.take (i + 1)) = addB (sumB (t, o) (b.take i)) b[i] := by rw [htk, sumB_append]; rfl
        refine ⟨_, ?_, ⟨i + 1, by omega, rfl⟩, by simp only; omega⟩
        unfold addStep
        have hd : decide ((i : Int) < (b.length : Int)) = true := decide_eq_true (by omega)
        rw [hd, cond_true, rdI_nat hlt, Option.bind_some, hnext]
        generalize sumB (t, o) (b.take i) = s at hsr
        obtain ⟨s1, s2⟩ := s
        simp only at hsr
        have hwi : IntKind.i64.wrap ((i : Int) + 1) = ((i + 1 : Nat) : Int) := by rw [wrap_i64 (by omega) (by omega)]; omega
        have hwc : IntKind.u64.wrap b[i] = b[i] := wrap_u64 hc.1 (by omega)
        cases s2 with
        | false =>
          simp only [Bool.not_false, cond_true]
          rw [hwc, show (2 : Int) ^ 8 = 256 by decide, wrap_u64 (n := b[i] * 256) (by omega) (by omega), wrap_u64 (by omega) (by omega), foldF_ok (by omega) (by omega), hwi]
          rfl
        | true =>
          simp only [Bool.not_true, cond_false]
          rw [hwc, wrap_u64 (by omega) (by omega), foldF_ok (by omega) (by omega), hwi]
          rfl
      · left
        have hib : i = b.length := by omega
        subst hib
        refine ⟨((), ((sumB (t, o) (b.take b.length)).1, (sumB (t, o) (b.take b.length)).2, ()), ()), ?_, by rw [List.take_length]⟩
        unfold addStep
        have hd : decide ((b.length : Int) < (b.length : Int)) = false := decide_eq_false (by omega)
        rw [hd, cond_false])
    (x := ((b, (b.length : Int), 0, ()), ((t, o, ()), ()))) ⟨0, by omega, by simp [sumB]⟩
  exact hr

/-- the checksum -/
def ck (b : List Int) : Int := 65535 - (sumB (0, false) b).1

theorem ofF_ok {b : List Int} (hb : Bytes b) (hl : b.length ≤ maxLen) : ofF b = some ((ck b, ()), ()) := by
  unfold ofF
  have hr := sumB_range b (0, false) (by decide) hb
  rw [addF_ok (by decide) hb hl]
  simp only [Option.bind_some]
  rw [wrap_u16 hr.1 (by omega), wrap_u16 (by omega) (by omega)]
  rfl

theorem livesF_ok : livesF = some ((true, ()), ()) := by
  unfold livesF
  rw [ofF_ok (by intro c hc; simp at hc; omega) (by simp [maxLen])]
  simp only [Option.bind_some]
  have : ck [69, 0, 0, 28] = 47843 := by decide
  rw [this]
  rfl

end Go.Proofs.Ytmjappidghjkjaa
