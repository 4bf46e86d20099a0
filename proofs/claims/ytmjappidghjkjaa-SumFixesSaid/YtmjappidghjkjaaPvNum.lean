/- Whole numbers, strings and lists: the machine's arithmetic is the plain one, and stays in its kind's range. -/
import Derived.Test.YtmjappidghjkjaaPvEq
namespace Go.Pv
noncomputable section

theorem inR_iff (k : IntKind) (n : Int) : inR k n = true ↔ k.min ≤ n ∧ n ≤ k.max := by
  unfold inR; simp

theorem wrap_inR (k : IntKind) (n : Int) : inR k (k.wrap n) = true := by
  rw [inR_iff]
  cases k <;> simp only [IntKind.min, IntKind.max, IntKind.wrap, IntKind.signed, IntKind.bits] <;> simp <;> omega

theorem tmod_inR (k : IntKind) (x y : Int) (h : inR k x = true) : inR k (x.tmod y) = true := by
  rw [inR_iff] at h ⊢
  have h1 : (x.tmod y).natAbs ≤ x.natAbs := by rw [Int.natAbs_tmod]; exact Nat.mod_le _ _
  have h2 : 0 ≤ x → 0 ≤ x.tmod y := fun h => Int.tmod_nonneg y h
  have h3 : x ≤ 0 → x.tmod y ≤ 0 := by
    intro h
    have := Int.tmod_nonneg y (a := -x) (by omega)
    rw [Int.neg_tmod] at this
    omega
  cases k <;> simp only [IntKind.min, IntKind.max, IntKind.signed, IntKind.bits] at h ⊢ <;> simp at h ⊢ <;> omega

theorem fdiv_inR (k : IntKind) (x : Int) (n : Nat) (h : inR k x = true) : inR k (x.fdiv (2 ^ n)) = true := by
  rw [inR_iff] at h ⊢
  have hp : (0 : Int) < 2 ^ n := Int.pow_pos (by decide)
  rw [Int.fdiv_eq_ediv_of_nonneg _ (by omega)]
  generalize (2 : Int) ^ n = d at hp
  have h1 : 0 ≤ x → 0 ≤ x / d ∧ x / d ≤ x := fun h => ⟨Int.ediv_nonneg h (by omega), Int.ediv_le_self d h⟩
  have h2 : x < 0 → x ≤ x / d ∧ x / d < 0 := by
    intro h
    refine ⟨?_, Int.ediv_neg_of_neg_of_pos h hp⟩
    rw [Int.le_ediv_iff_mul_le hp]
    have : x * d ≤ x * 1 := Int.mul_le_mul_of_nonpos_left (by omega) (by omega)
    omega
  by_cases hx : 0 ≤ x
  · have := h1 hx
    cases k <;> simp only [IntKind.min, IntKind.max, IntKind.signed, IntKind.bits] at h ⊢ <;> simp at h ⊢ <;> omega
  · have := h2 (by omega)
    cases k <;> simp only [IntKind.min, IntKind.max, IntKind.signed, IntKind.bits] at h ⊢ <;> simp at h ⊢ <;> omega

theorem len_inR {n : Nat} (h : n ≤ maxLen) : inR .i64 (n : Int) = true := by
  rw [inR_iff]
  simp only [maxLen] at h
  simp only [IntKind.min, IntKind.max, IntKind.signed, IntKind.bits]
  simp
  omega

theorem byte_inR (b : UInt8) : inR .u8 (b.toNat : Int) = true := by
  rw [inR_iff]
  have := b.toNat_lt
  simp only [IntKind.min, IntKind.max, IntKind.signed, IntKind.bits]
  simp
  omega

/-- a comparison's guard asks nothing here -/
theorem run_eqGuard_plain {P : Program} {w : World} (op : BinOp) (t : TypeId) (x y : Operand) (a b : Value) (h1 : a ≠ .nilIface ∨ b ≠ .nilIface) (h2 : Value.agg? a = false ∨ Value.agg? b = false) :
    (eqGuard op t x y a b).run P w = .ok () w := by
  unfold eqGuard
  cases op <;> first
    | rfl
    | (cases a <;> cases b <;> first | rfl | (simp at h1; done) | (simp [Value.agg?] at h2; done))

theorem intOp_ok {P : Program} {w : World} {op : BinOp} {k : IntKind} {m n : Int} {d : ODyn} {v : T d.ty} (hm : inR k m = true) (hn : inR k n = true) (h : intOp op k m n = some d) (hv : d.val = some v) (t : TypeId) :
    ∃ u, (Go.binOp op t (.int k m) (.int k n)).run P w = .ok u w ∧ d.ty.pure = true ∧ ∀ B, VR w B d.ty v u [] := by
  have hk : ¬ k ≠ k := fun h => h rfl
  cases op <;> simp only [intOp, Option.some.injEq] at h <;> first | (cases h; done) | skip
  all_goals subst h
  case add => obtain rfl := Option.some.inj hv; exact ⟨.int k (k.wrap (m + n)), by simp [Go.binOp, Op.intArith], rfl, fun B => ⟨⟨rfl, wrap_inR k _, rfl⟩, rfl⟩⟩
  case sub => obtain rfl := Option.some.inj hv; exact ⟨.int k (k.wrap (m - n)), by simp [Go.binOp, Op.intArith], rfl, fun B => ⟨⟨rfl, wrap_inR k _, rfl⟩, rfl⟩⟩
  case mul => obtain rfl := Option.some.inj hv; exact ⟨.int k (k.wrap (m * n)), by simp [Go.binOp, Op.intArith], rfl, fun B => ⟨⟨rfl, wrap_inR k _, rfl⟩, rfl⟩⟩
  case quo =>
    simp only [quoI] at hv
    split at hv
    · cases hv
    · rename_i h0
      obtain rfl := Option.some.inj hv
      exact ⟨.int k (k.wrap (m.tdiv n)), by simp [Go.binOp, Op.intDiv, h0], rfl, fun B => ⟨⟨rfl, wrap_inR k _, rfl⟩, rfl⟩⟩
  case rem =>
    simp only [remI] at hv
    split at hv
    · cases hv
    · rename_i h0
      obtain rfl := Option.some.inj hv
      exact ⟨.int k (m.tmod n), by simp [Go.binOp, Op.intDiv, h0], rfl, fun B => ⟨⟨rfl, tmod_inR k m n hm, rfl⟩, rfl⟩⟩
  case and => obtain rfl := Option.some.inj hv; exact ⟨.int k (bitsI .and k m n), by simp [Go.binOp, Op.intBits, bitsI], rfl, fun B => ⟨⟨rfl, wrap_inR k _, rfl⟩, rfl⟩⟩
  case or => obtain rfl := Option.some.inj hv; exact ⟨.int k (bitsI .or k m n), by simp [Go.binOp, Op.intBits, bitsI], rfl, fun B => ⟨⟨rfl, wrap_inR k _, rfl⟩, rfl⟩⟩
  case xor => obtain rfl := Option.some.inj hv; exact ⟨.int k (bitsI .xor k m n), by simp [Go.binOp, Op.intBits, bitsI], rfl, fun B => ⟨⟨rfl, wrap_inR k _, rfl⟩, rfl⟩⟩
  case andNot => obtain rfl := Option.some.inj hv; exact ⟨.int k (bitsI .andNot k m n), by simp [Go.binOp, Op.intBits, bitsI], rfl, fun B => ⟨⟨rfl, wrap_inR k _, rfl⟩, rfl⟩⟩
  case eql => obtain rfl := Option.some.inj hv; exact ⟨.bool (decide (m = n)), by simp [Go.binOp, Op.intCmp]; rfl, rfl, fun B => ⟨⟨rfl, rfl⟩, rfl⟩⟩
  case neq => obtain rfl := Option.some.inj hv; exact ⟨.bool (!decide (m = n)), by simp [Go.binOp, Op.intCmp]; rfl, rfl, fun B => ⟨⟨rfl, rfl⟩, rfl⟩⟩
  case lss => obtain rfl := Option.some.inj hv; exact ⟨.bool (decide (m < n)), by simp [Go.binOp, Op.intCmp], rfl, fun B => ⟨⟨rfl, rfl⟩, rfl⟩⟩
  case leq => obtain rfl := Option.some.inj hv; exact ⟨.bool (decide (m ≤ n)), by simp [Go.binOp, Op.intCmp], rfl, fun B => ⟨⟨rfl, rfl⟩, rfl⟩⟩
  case gtr => obtain rfl := Option.some.inj hv; exact ⟨.bool (decide (m > n)), by simp [Go.binOp, Op.intCmp], rfl, fun B => ⟨⟨rfl, rfl⟩, rfl⟩⟩
  case geq => obtain rfl := Option.some.inj hv; exact ⟨.bool (decide (m ≥ n)), by simp [Go.binOp, Op.intCmp], rfl, fun B => ⟨⟨rfl, rfl⟩, rfl⟩⟩

theorem shift_ok {P : Program} {w : World} {k k' : IntKind} {m n z : Int} (hm : inR k m = true) (t : TypeId) :
    (shlI k m n = some z → (Go.binOp .shl t (.int k m) (.int k' n)).run P w = .ok (.int k z) w ∧ inR k z = true) ∧
    (shrI k m n = some z → (Go.binOp .shr t (.int k m) (.int k' n)).run P w = .ok (.int k z) w ∧ inR k z = true) := by
  constructor
  · intro h
    simp only [shlI] at h
    split at h
    · cases h
    · rename_i h0
      obtain rfl := Option.some.inj h
      exact ⟨by simp [Go.binOp, Op.shift, h0], wrap_inR k _⟩
  · intro h
    simp only [shrI] at h
    split at h
    · cases h
    · rename_i h0
      obtain rfl := Option.some.inj h
      exact ⟨by simp [Go.binOp, Op.shift, h0], fdiv_inR k m _ hm⟩

theorem bytesOf_length (s : ByteArray) : (bytesOf s).length = s.size := by unfold bytesOf; rw [List.length_map, Array.length_toList]; rfl

theorem ltB_ok : ∀ (x y : List UInt8), Op.bytesLess x y = ltB (x.map fun b => (b.toNat : Int)) (y.map fun b => (b.toNat : Int))
  | [], [] => rfl
  | _ :: _, [] => rfl
  | [], _ :: _ => rfl
  | a :: x, b :: y => by
    simp only [Op.bytesLess, List.map_cons, ltB, ltB_ok x y]
    have h1 : decide (a < b) = decide ((a.toNat : Int) < (b.toNat : Int)) := by
      rw [decide_eq_decide]; rw [UInt8.lt_iff_toNat_lt]; omega
    have h2 : (a == b) = decide ((a.toNat : Int) = (b.toNat : Int)) := by
      rw [Bool.eq_iff_iff, beq_iff_eq, decide_eq_true_eq, ← UInt8.toNat_inj]; omega
    rw [h2]
    congr 1

theorem strOp_ok {P : Program} {w : World} {op : BinOp} {a b : ByteArray} {d : ODyn} {v : T d.ty} (h : strOp op (bytesOf a) (bytesOf b) = some d) (hv : d.val = some v) (t : TypeId) :
    ∃ u, (Go.binOp op t (.string a) (.string b)).run P w = .ok u w ∧ d.ty.pure = true ∧ ∀ B, VR w B d.ty v u [] := by
  have hlt : Op.bytesLess a.toList b.toList = ltB (bytesOf a) (bytesOf b) := by rw [ltB_ok, ByteArray.toList_eq, ByteArray.toList_eq]; rfl
  have heq := str_eq a b
  cases op <;> simp only [strOp, Option.some.injEq] at h <;> first | (cases h; done) | skip
  all_goals subst h
  case add =>
    simp only [catI] at hv
    split at hv
    · rename_i hc
      obtain rfl := Option.some.inj hv
      rw [bytesOf_length, bytesOf_length] at hc
      refine ⟨.string (a ++ b), ?_, rfl, fun B => ⟨⟨a ++ b, rfl, ?_, ?_, rfl⟩, rfl⟩⟩
      · have hm : ¬ ((a.size + b.size : Nat) : Int) > IntKind.i64.max := by
          have h63 : IntKind.i64.max = 9223372036854775807 := by decide
          rw [h63]; omega
        simp only [Go.binOp, Op.stringOp, if_neg hm]
        rfl
      · simp [bytesOf, ByteArray.data_append]
      · simp only [maxLen, ByteArray.size_append]; omega
    · cases hv
  case eql => obtain rfl := Option.some.inj hv; exact ⟨.bool (decide (bytesOf a = bytesOf b)), by simp [Go.binOp, Op.stringOp, heq], rfl, fun B => ⟨⟨rfl, rfl⟩, rfl⟩⟩
  case neq => obtain rfl := Option.some.inj hv; exact ⟨.bool (!decide (bytesOf a = bytesOf b)), by simp [Go.binOp, Op.stringOp, heq], rfl, fun B => ⟨⟨rfl, rfl⟩, rfl⟩⟩
  case lss => obtain rfl := Option.some.inj hv; exact ⟨.bool (ltB (bytesOf a) (bytesOf b)), by simp [Go.binOp, Op.stringOp, hlt], rfl, fun B => ⟨⟨rfl, rfl⟩, rfl⟩⟩
  case leq => obtain rfl := Option.some.inj hv; exact ⟨.bool (ltB (bytesOf a) (bytesOf b) || decide (bytesOf a = bytesOf b)), by simp [Go.binOp, Op.stringOp, hlt, heq], rfl, fun B => ⟨⟨rfl, rfl⟩, rfl⟩⟩
  case gtr => obtain rfl := Option.some.inj hv; exact ⟨.bool (!(ltB (bytesOf a) (bytesOf b) || decide (bytesOf a = bytesOf b))), by simp [Go.binOp, Op.stringOp, hlt, heq], rfl, fun B => ⟨⟨rfl, rfl⟩, rfl⟩⟩
  case geq => obtain rfl := Option.some.inj hv; exact ⟨.bool (!ltB (bytesOf a) (bytesOf b)), by simp [Go.binOp, Op.stringOp, hlt], rfl, fun B => ⟨⟨rfl, rfl⟩, rfl⟩⟩

end
end Go.Pv
