/- The functions that the statements reach as plain Lean, and what they compute. -/
import Derived.Test.YtffgheglileflaaQ9

namespace Go.L
open Go Go.Pv
set_option maxRecDepth 100000

theorem or_byte {n v : Nat} (hn : n < 1000000000000) (hv : v < 256) : bitsI .or .i64 (IntKind.i64.wrap ((n : Int) * 2 ^ 8)) (IntKind.i64.wrap (v : Int)) = ((n * 256 + v : Nat) : Int) := by
  have e1 : IntKind.i64.wrap ((n : Int) * 2 ^ 8) = ((n * 256 : Nat) : Int) := by
    rw [wrap_i64 (by omega) (by omega)]; omega
  have e2 : IntKind.i64.wrap (v : Int) = ((v : Nat) : Int) := wrap_i64 (by omega) (by omega)
  rw [e1, e2]
  have h3 : (BitVec.ofInt 64 ((n * 256 : Nat) : Int) ||| BitVec.ofInt 64 ((v : Nat) : Int)).toNat = n * 256 + v := by
    rw [BitVec.ofInt_natCast, BitVec.ofInt_natCast, BitVec.toNat_or, BitVec.toNat_ofNat, BitVec.toNat_ofNat, Nat.mod_eq_of_lt (by omega), Nat.mod_eq_of_lt (by omega)]
    have := Nat.shiftLeft_add_eq_or_of_lt (i := 8) (show v < 2 ^ 8 by omega) n
    rw [Nat.shiftLeft_eq] at this
    exact this.symm
  show IntKind.i64.wrap ((BitVec.ofInt 64 ((n * 256 : Nat) : Int) ||| BitVec.ofInt 64 ((v : Nat) : Int)).toNat : Int) = _
  rw [h3, wrap_i64 (by omega) (by omega)]

abbrev Flt := Option (Int × Int × Unit)
/-- a reader: bytes, how many are taken, the first fault -/
abbrev Rdr := ((List Int) × Int × Flt × Unit) × Unit
abbrev rd (b : List Int) (at_ : Int) (f : Flt) : Rdr := ((b, at_, f, ()), ())

/-- the number of bytes, the highest first -/
def beN (l : List Int) : Nat := l.foldl (fun n v => n * 256 + v.toNat) 0

theorem beN_snoc (l : List Int) (v : Int) : beN (l ++ [v]) = beN l * 256 + v.toNat := by unfold beN; rw [List.foldl_append]; rfl

theorem fold_lt : ∀ (l : List Int) (n : Nat), (∀ v ∈ l, inR .u8 v = true) → l.foldl (fun n v => n * 256 + v.toNat) n < (n + 1) * 256 ^ l.length
  | [], n, _ => by simp
  | v :: l, n, h => by
    have h1 := fold_lt l (n * 256 + v.toNat) fun v hv => h v (by simp [hv])
    have h2 := u8_of (h v (by simp))
    have h3 : (n * 256 + v.toNat + 1) * 256 ^ l.length ≤ ((n + 1) * 256) * 256 ^ l.length := Nat.mul_le_mul_right _ (by omega)
    rw [List.foldl_cons, List.length_cons, Nat.pow_succ, Nat.mul_comm (256 ^ l.length) 256, ← Nat.mul_assoc]
    exact Nat.lt_of_lt_of_le h1 h3

theorem beN_lt (l : List Int) (h : ∀ v ∈ l, inR .u8 v = true) : beN l < 256 ^ l.length := by
  have := fold_lt l 0 h
  unfold beN
  simpa using this

theorem fail_ba6 (b : List Int) (a : Int) (f : Flt) (e p : Int) : wire_cursor_fail_ba6 (b, a, f, ()) e p = some ((), (b, a, (bif f.isNone && !decide (e = 0) then some (e, p, ()) else f), ()), ()) := by
  unfold wire_cursor_fail_ba6
  cases f with
  | none => cases decide (e = 0) <;> rfl
  | some f => rfl

theorem take_c4f {b : List Int} {at_ k : Nat} (f : Flt) (hb : b.length ≤ 1000000) (ha : at_ ≤ b.length) : wire_cursor_take_c4f (b, (at_ : Int), f, ()) (k : Int) =
    some ((bif f.isNone && decide (at_ + k ≤ b.length) then ((((b.drop at_).take k, true, ()), ((b, ((at_ + k : Nat) : Int), f, ()), ()))) else (([], false, ()), ((b, (at_ : Int), f, ()), ())))) := by
  unfold wire_cursor_take_c4f
  cases f with
  | some f => rfl
  | none =>
    have e1 : IntKind.i64.wrap ((b.length : Int) - (at_ : Int)) = (b.length : Int) - (at_ : Int) := wrap_i64 (by omega) (by omega)
    simp only [Option.isNone_none, Bool.not_true, Bool.not_false, gsome, cond_true, cond_false, e1, Bool.true_and]
    by_cases h : at_ + k ≤ b.length
    · have e2 : IntKind.i64.wrap ((at_ : Int) + (k : Int)) = ((at_ + k : Nat) : Int) := by rw [wrap_i64 (by omega) (by omega)]; omega
      have e3 : IntKind.i64.wrap (((at_ + k : Nat) : Int) - (k : Int)) = (at_ : Int) := by rw [wrap_i64 (by omega) (by omega)]; omega
      rw [decide_eq_true h, decide_eq_false (show ¬ ((k : Int) > (b.length : Int) - (at_ : Int)) by omega), cond_false, cond_true, e2, e3]
      have hs : subL b (at_ : Int) ((at_ + k : Nat) : Int) = some ((b.drop at_).take k) := by
        unfold subL
        rw [if_pos ⟨by omega, by omega, by omega⟩]
        congr 1
        rw [Int.toNat_natCast, Int.toNat_natCast, List.drop_take, Nat.add_sub_cancel_left]
      rw [hs]; rfl
    · rw [decide_eq_false h, decide_eq_true (show ((k : Int) > (b.length : Int) - (at_ : Int)) by omega)]
      rfl

/-- reading a number: what it is, and the reader then -/
def rdNum (b : List Int) (at_ : Nat) (f : Flt) (k : Nat) (most : Int) : Int × Nat × Flt :=
  match f with
  | some f => (0, at_, some f)
  | none => if at_ + k ≤ b.length then (if (beN ((b.drop at_).take k) : Int) > most then (0, at_, some (7, (at_ : Int), ())) else ((beN ((b.drop at_).take k) : Int), at_ + k, none)) else (0, at_, some (3, (at_ : Int), ()))

theorem number_ok {b : List Int} {at_ k : Nat} {f : Flt} {most : Int} (hb : b.length ≤ 1000000) (hu : ∀ v ∈ b, inR .u8 v = true) (ha : at_ ≤ b.length) (hk : k ≤ 4) :
    wire_Reader_number_28a (rd b (at_ : Int) f) (k : Int) most = some (((rdNum b at_ f k most).1, ()), rd b ((rdNum b at_ f k most).2.1 : Int) (rdNum b at_ f k most).2.2, ()) := by
  unfold wire_Reader_number_28a
  simp only [rd, take_c4f f hb ha, Option.bind_some]
  cases f with
  | some f => rfl
  | none =>
    simp only [Option.isNone_none, Bool.true_and, rdNum]
    by_cases h : at_ + k ≤ b.length
    · rw [decide_eq_true h, if_pos h]
      simp only [cond_true, Bool.not_true, cond_false]
      have hl : ((b.drop at_).take k).length = k := by rw [List.length_take, List.length_drop]; omega
      have hm : ∀ v ∈ (b.drop at_).take k, inR .u8 v = true := fun v hv => hu v (List.mem_of_mem_drop (List.mem_of_mem_take hv))
      generalize (b.drop at_).take k = l at hl hm
      subst hl
      have key := loop_up (f := fun (z : (Int × Int × Int × (List Int) × Int × Int × Unit) × ((((List Int) × Int × Flt × Unit) × Unit) × Unit)) => wire_Reader_number_28a_s0 z.1.1 z.1.2.1 z.1.2.2.1 z.1.2.2.2.1 z.1.2.2.2.2.1 z.1.2.2.2.2.2.1 z.2.1)
        (fun i => ((most, (at_ : Int), (beN (l.take i) : Int), l, (l.length : Int), (i : Int), ()), (rd b ((at_ + l.length : Nat) : Int) none, ()))) l.length
        (r := ((if (beN l : Int) > most then (0, ()) else ((beN l : Int), ())), (if (beN l : Int) > most then rd b (at_ : Int) (some (7, (at_ : Int), ())) else rd b ((at_ + l.length : Nat) : Int) none), ()))
        (fun i hi => by
          dsimp only
          unfold wire_Reader_number_28a_s0
          rw [dlt hi, cond_true]
          have hv := u8_of (hm l[i] (List.getElem_mem hi))
          have hr : rdI l (i : Int) = some l[i] := by
            unfold rdI
            rw [if_pos (by omega), Int.toNat_natCast, List.getElem?_eq_getElem hi]
          rw [hr, Option.bind_some]
          have hlt := beN_lt (l.take i) fun v hv => hm v (List.mem_of_mem_take hv)
          have hp : 256 ^ (l.take i).length ≤ 256 ^ 3 := Nat.pow_le_pow_right (by omega) (by rw [List.length_take]; omega)
          have e : l[i] = ((l[i].toNat : Nat) : Int) := by omega
          have hb := or_byte (n := beN (l.take i)) (v := l[i].toNat) (by omega) (by omega)
          rw [e, hb, wi64 (by omega)]
          have ht : l.take (i + 1) = l.take i ++ [l[i]] := by rw [List.take_add_one, List.getElem?_eq_getElem hi]; rfl
          rw [ht, beN_snoc])
        (by
          dsimp only
          unfold wire_Reader_number_28a_s0
          rw [decide_eq_false (show ¬ ((l.length : Int) < (l.length : Int)) by omega), cond_false, List.take_length]
          by_cases hmo : (beN l : Int) > most
          · simp only [decide_eq_true hmo, cond_true, if_pos hmo, fail_ba6, Option.bind_some]
            rfl
          · simp only [decide_eq_false hmo, cond_false, if_neg hmo]
            rfl) 0 (Nat.zero_le _)
      simp only [List.take_zero] at key
      refine Eq.trans ?_ (key.trans ?_)
      · rfl
      · by_cases hmo : (beN l : Int) > most
        · simp only [if_pos hmo]
        · simp only [if_neg hmo]
    · rw [decide_eq_false h, if_neg h]
      simp only [cond_false, Bool.not_false, cond_true, fail_ba6, Option.bind_some]
      rfl

end Go.L
