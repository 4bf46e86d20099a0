/- The functions of this seat, and the laws as plain Lean. -/
import Derived.Test.YtnaclmcmicckeaaQ10

set_option linter.unusedSimpArgs false
set_option linter.unusedVariables false

namespace Go.Proofs.Ytnaclmcmicckeaa
open Go Go.Pv Go.Proofs Go.L
set_option maxRecDepth 100000

theorem may8 {x : Nat} (hx : x < 256) : mayV (8, 0, (x : Int), ()) = true ∧ okV (8, 0, (x : Int), ()) := by
  constructor
  · unfold mayV may
    have hb : bitLen x ≤ 8 := bitLen_le (by omega)
    have : (0 : Int).toNat * 18446744073709551616 + ((x : Nat) : Int).toNat = x := by omega
    dsimp only
    rw [this]
    exact decide_eq_true ⟨by omega, by omega⟩
  · unfold okV
    simp [inR, IntKind.min, IntKind.max, IntKind.signed, IntKind.bits]
    omega

theorem lives_ok : law19_lives = some ((true, ()), ()) := by
  obtain ⟨l, e1, h1, hn⟩ := new_ok (most := 1) (by omega) (by omega)
  have e1 : exact_New 1 = _ := e1
  obtain ⟨m5, o5⟩ := may8 (x := 5) (by omega)
  obtain ⟨m6, o6⟩ := may8 (x := 6) (by omega)
  unfold law19_lives
  rw [e1, Option.bind_some]
  dsimp only
  rcases put_ok h1 (v := 7) o5 with ⟨q, _⟩ | ⟨_, ⟨w, q⟩, _⟩ | ⟨_, _, q, _⟩ | ⟨_, _, _, l2, e2, h2, hh⟩
  · rw [m5] at q; cases q
  · exact absurd q (hn _ _)
  · cases q
  have e2 : exact_Map_Put_767 (l, 0, 1, ()) (8, 0, 5, ()) 7 = some ((0, ()), (l2, 1, 1, ()), ()) := e2
  have i7 : has l2 (8, 0, 5, ()) 7 := (hh _ _).2 (.inr ⟨rfl, rfl⟩)
  rcases put_ok h2 (v := 8) o6 with ⟨q, _⟩ | ⟨_, ⟨w, q⟩, _⟩ | ⟨_, _, _, e3⟩ | ⟨_, _, q, _⟩
  · rw [m6] at q; cases q
  · rcases (hh _ _).1 q with q | ⟨q, _⟩
    · exact absurd q (hn _ _)
    · simp at q
  rotate_left
  · omega
  have e3 : exact_Map_Put_767 (l2, 1, 1, ()) (8, 0, 6, ()) 8 = some ((8, ()), (l2, 1, 1, ()), ()) := e3
  rcases get_ok h2 o5 with ⟨v, _, q, e4⟩ | ⟨q | q, _⟩
  · have := has_one h2 q i7
    subst this
    have e4 : exact_Map_Get_ca4 (l2, 1, 1, ()) (8, 0, 5, ()) = some ((7, true, ()), (l2, 1, 1, ()), ()) := e4
    have c1 : ((1 : Nat) : Int) = 1 := rfl
    simp only [c1, e2, e3, e4, Option.bind_some, decide_true, Bool.not_true, Bool.not_false, gsome, gtrue, cond_true, cond_false]
  · have q : mayV (8, 0, ((5 : Nat) : Int), ()) = false := q
    rw [m5] at q; cases q
  · exact absurd i7 (q 7)

abbrev Op := Int × Int × K4 × Unit

theorem keeps_ok {ops : List Op} {key : K4} {v : Int} (hk : okV key) (ho : ∀ o ∈ ops, okV o.2.2.1) : law19_ExactKeeps ops key v = some ((true, ()), ()) := by
  have hke : (key.1, key.2.1, key.2.2.1, ()) = key := rfl
  unfold law19_ExactKeeps
  dsimp only
  rw [hke]
  by_cases hl : (ops.length : Int) > 600
  · simp only [decide_eq_true hl, gsome, Bool.not_true, gfalse, cond_true, lives_ok, Option.bind_some]
  simp only [decide_eq_false hl, gsome, Bool.not_false, gtrue, cond_true, cond_false, (mayV_ok hk).2, Option.bind_some]
  cases hm : mayV key with
  | false => simp only [Bool.not_false, cond_true, lives_ok, Option.bind_some]
  | true =>
  simp only [Bool.not_true, cond_false]
  obtain ⟨l, e1, h1, hn⟩ := new_ok (most := 256) (by omega) (by omega)
  have e1 : exact_New 256 = _ := e1
  rw [e1, Option.bind_some]
  dsimp only
  rcases put_ok h1 (v := v) hk with ⟨q, _⟩ | ⟨_, ⟨w, q⟩, _⟩ | ⟨_, _, q, _⟩ | ⟨_, _, _, l2, e2, h2, hh⟩
  · rw [hm] at q; cases q
  · exact absurd q (hn _ _)
  · cases q
  have e2 : exact_Map_Put_767 (l, 0, 256, ()) key v = some ((0, ()), (l2, ((0 + 1 : Nat) : Int), ((256 : Nat) : Int), ()), ()) := e2
  have e256 : ((256 : Nat) : Int) = 256 := rfl
  rw [e256, e2, Option.bind_some]
  dsimp only
  simp only [decide_true, Bool.not_true, cond_false]
  have getk : ∀ (l : List Slot) (n : Nat), Ivt 256 n l → has l key v → exact_Map_Get_ca4 (l, (n : Int), ((256 : Nat) : Int), ()) key = some ((v, true, ()), (l, (n : Int), ((256 : Nat) : Int), ()), ()) := by
    intro l n hI hv
    rcases get_ok hI hk with ⟨w, _, q, e⟩ | ⟨q | q, _⟩
    · have := has_one hI q hv
      subst this
      exact e
    · rw [hm] at q; cases q
    · exact absurd hv (q v)
  refine loop_inv (P := fun i x => ∃ (l : List Slot) (n : Nat), Ivt 256 n l ∧ has l key v ∧ x = ((ops, v, (i : Int), ()), (l, (n : Int), ((256 : Nat) : Int), ()), key, ())) (n := ops.length) ?_ ?_ _ 0 _ rfl (Nat.zero_le _) ⟨l2, 0 + 1, h2, (hh _ _).2 (.inr ⟨rfl, rfl⟩), rfl⟩
  · rintro i _ hi ⟨l, n, hI, hv, rfl⟩
    have hmem := List.getElem_mem hi
    have hok := ho _ hmem
    dsimp only
    unfold law19_ExactKeeps_s0
    dsimp only
    rw [dlt hi, cond_true, hke, rdI_get hi, Option.bind_some, keq]
    have hlen : ops.length ≤ 600 := by omega
    by_cases hkk : ops[i].2.2.1 = key
    · rw [decide_eq_true hkk, cond_true, wi64 (by omega)]
      exact ⟨_, rfl, l, n, hI, hv, rfl⟩
    · rw [decide_eq_false hkk, cond_false, Option.bind_some]
      have fin : ∀ (l : List Slot) (n : Nat) (c : Int), Ivt 256 n l → has l key v → ∃ y, ((exact_Map_Get_ca4 (l, (n : Int), ((256 : Nat) : Int), ()) key).bind fun r_22 =>
          let t93_23 : Bool := !decide (r_22.1.1 = v)
          guardR (!t93_23) (some ()) () fun _ =>
          guardR (!t93_23) (some ()) () fun _ =>
          bif (bif t93_23 then true else !r_22.1.2.1) then
            some (Sum.inr (((false, ()), ()) : (Bool × Unit) × Unit))
          else
          some (Sum.inl ((ops, v, (IntKind.i64.wrap ((i : Int) + 1)), ()), r_22.2.1, key, ()))) = some (Sum.inl y) ∧ ∃ (l : List Slot) (n : Nat), Ivt 256 n l ∧ has l key v ∧ y = ((ops, v, ((i + 1 : Nat) : Int), ()), (l, (n : Int), ((256 : Nat) : Int), ()), key, ()) := by
        intro l n _ hI hv
        rw [getk l n hI hv, Option.bind_some]
        simp only [decide_true, Bool.not_true, Bool.not_false, gsome, cond_false, wi64 (show i < 1000000000 by omega)]
        exact ⟨_, rfl, l, n, hI, hv, rfl⟩
      by_cases hk0 : ops[i].1 = 0
      · rw [decide_eq_true hk0, cond_true]
        simp only [Option.bind_some]
        rcases put_ok hI (v := ops[i].2.1) hok with ⟨_, e⟩ | ⟨_, _, e⟩ | ⟨_, _, _, e⟩ | ⟨_, _, _, l', e, hI', hh⟩
        · rw [e, Option.bind_some]; exact fin l n 0 hI hv
        · rw [e, Option.bind_some]; exact fin l n 0 hI hv
        · rw [e, Option.bind_some]; exact fin l n 0 hI hv
        · rw [e, Option.bind_some]; exact fin l' (n + 1) 0 hI' ((hh _ _).2 (.inl hv))
      · rw [decide_eq_false hk0, cond_false]
        by_cases hk1 : ops[i].1 = 1
        · rw [decide_eq_true hk1, cond_true]
          simp only [Option.bind_some]
          rcases set_ok hI (v := ops[i].2.1) hok with ⟨_, e⟩ | ⟨_, _, e⟩ | ⟨_, _, l', e, hI', hh⟩
          · rw [e, Option.bind_some]; exact fin l n 0 hI hv
          · rw [e, Option.bind_some]; exact fin l n 0 hI hv
          · rw [e, Option.bind_some]; exact fin l' n 0 hI' ((hh _ _).2 (.inl ⟨fun q => hkk q.symm, hv⟩))
        · rw [decide_eq_false hk1, cond_false, Option.bind_some]
          rcases drop_ok hI hok with ⟨_, e⟩ | ⟨_, _, e⟩ | ⟨_, _, _, l', e, hI', hh⟩
          · rw [e, Option.bind_some]; exact fin l n 0 hI hv
          · rw [e, Option.bind_some]; exact fin l n 0 hI hv
          · rw [e, Option.bind_some]; exact fin l' (n - 1) 0 hI' ((hh _ _).2 ⟨fun q => hkk q.symm, hv⟩)
  · rintro _ ⟨l, n, hI, hv, rfl⟩
    dsimp only
    unfold law19_ExactKeeps_s0
    dsimp only
    rw [dge, cond_false, hke]
    rcases drop_ok hI hk with ⟨q, _⟩ | ⟨_, q, _⟩ | ⟨_, _, _, l', e, hI', hh⟩
    · rw [hm] at q; cases q
    · exact absurd hv (q v)
    have hno : ∀ w, ¬ has l' key w := fun w q => ((hh _ _).1 q).1 rfl
    have e3 : exact_Map_Get_ca4 (l', ((n - 1 : Nat) : Int), ((256 : Nat) : Int), ()) key = some ((0, false, ()), (l', ((n - 1 : Nat) : Int), ((256 : Nat) : Int), ()), ()) := by
      rcases get_ok hI' hk with ⟨w, _, q, _⟩ | ⟨_, e⟩
      · exact absurd q (hno w)
      · exact e
    have e4 : exact_Map_Drop_ca4 (l', ((n - 1 : Nat) : Int), ((256 : Nat) : Int), ()) key = some ((5, ()), (l', ((n - 1 : Nat) : Int), ((256 : Nat) : Int), ()), ()) := by
      rcases drop_ok hI' hk with ⟨q, _⟩ | ⟨_, _, e⟩ | ⟨_, ⟨w, q⟩, _⟩
      · rw [hm] at q; cases q
      · exact e
      · exact absurd q (hno w)
    rw [e, Option.bind_some]
    simp only [decide_true, Bool.not_true, Bool.not_false, cond_false, cond_true, e3, e4, Option.bind_some, gsome, gtrue, lives_ok, Option.map_some]

end Go.Proofs.Ytnaclmcmicckeaa
