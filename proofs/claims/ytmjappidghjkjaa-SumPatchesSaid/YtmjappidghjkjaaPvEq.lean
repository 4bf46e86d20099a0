/- Equality of structs and arrays: the machine's answer is the plain one. -/
import Derived.Test.YtmjappidghjkjaaPvOp
import Derived.ChangeKeysEq
namespace Go.Pv
noncomputable section

theorem bytes_inj {a b : ByteArray} : bytesOf a = bytesOf b ↔ a = b := by
  constructor
  · intro h
    have key : ∀ (l m : List UInt8), (l.map fun b => (b.toNat : Int)) = (m.map fun b => (b.toNat : Int)) → l = m := by
      intro l
      induction l with
      | nil => intro m h; cases m with | nil => rfl | cons _ _ => simp at h
      | cons x l ih =>
        intro m h
        cases m with
        | nil => simp at h
        | cons y m =>
          simp only [List.map_cons, List.cons.injEq] at h
          obtain ⟨h1, h2⟩ := h
          have : x = y := UInt8.toNat_inj.1 (by omega)
          rw [this, ih m h2]
    have := key _ _ h
    obtain ⟨⟨x⟩⟩ := a
    obtain ⟨⟨y⟩⟩ := b
    simp only at this
    rw [this]
  · rintro rfl; rfl

theorem str_eq (b c : ByteArray) : (b.toList == c.toList) = decide (bytesOf b = bytesOf c) := by
  rw [Bool.eq_iff_iff, ByteArray.toList_eq, ByteArray.toList_eq, beq_iff_eq, decide_eq_true_eq]
  constructor
  · intro h; unfold bytesOf; rw [h]
  · intro h; rw [bytes_inj.1 h]

theorem run_part {P : Program} {t : TypeId} {ty : Ty} (h : sizeOk P t ty = true) {w : World} {cs pre mid post : List Value} (hc : cs = pre ++ mid ++ post) (hl : mid.length = ty.size) (hp : ∀ c ∈ mid, Value.plain? c = true) :
    ∃ v, (part t cs.toArray pre.length).run P w = .ok v w ∧ v.cells.toList = mid ∧ Value.agg? v = ty.isAgg := by
  unfold part
  simp only [Sem.run_bind, run_isAgg h, Result.andThen_ok]
  obtain ⟨i, hi, hs, d, hd, hm⟩ := sizeOk_info h
  cases ha : ty.isAgg with
  | true =>
    refine ⟨.agg mid.toArray, ?_, by simp [Value.cells], rfl⟩
    subst hc
    simp [run_sizeOf h, ← hl, List.extract_eq_take_drop]
  | false =>
    have h1 : ty.size = 1 := by
      split at hm
      · rw [ha] at hm; cases hm
      · rw [ha] at hm; cases hm
      · exact hm.2
    rw [h1] at hl
    obtain ⟨c, rfl⟩ := List.length_eq_one_iff.1 hl
    subst hc
    have hc := hp c (by simp)
    refine ⟨c, by simp, ?_, ?_⟩
    · cases c <;> first | rfl | (simp [Value.plain?] at hc)
    · cases c <;> first | rfl | (simp [Value.plain?] at hc)

theorem eqLs_length {α : Type} (g : α → α → Bool) : ∀ xs ys, eqLs g xs ys = true → xs.length = ys.length
  | [], [], _ => rfl
  | _ :: xs, _ :: ys, h => by
    simp only [eqLs, Bool.and_eq_true] at h
    simp [eqLs_length g xs ys h.2]
  | [], _ :: _, h => by simp [eqLs] at h
  | _ :: _, [], h => by simp [eqLs] at h

theorem run_eqItems {P : Program} {w : World} {B : Nat → Prop} {e : TypeId} {e' : Ty} (hs : sizeOk P e e' = true) {g : T e' → T e' → Bool} {d : Nat}
    (hg : ∀ (x y : T e') (v u : Value) F F', VR w B e' x v F → VR w B e' y u F' → (Op.equalIn d e v u).run P w = .ok (g x y) w) :
    ∀ (xs ys : List (T e')) (cs ds pre pre' : List Value) F F', xs.length = ys.length → RelL (Rel w B e') xs cs F → RelL (Rel w B e') ys ds F' → ∀ j, pre.length = j * e'.size → pre'.length = j * e'.size →
      (Op.eqItems d e e'.size (pre ++ cs).toArray (pre' ++ ds).toArray (List.range' j xs.length)).run P w = .ok (eqLs g xs ys) w
  | [], [], _, _, _, _, _, _, _, _, _, j, _, _ => by simp [Op.eqItems, eqLs]
  | x :: xs, y :: ys, _, _, pre, pre', _, _, hl, ⟨c1, c2, F1, F2, hc, _, h1, h2⟩, ⟨d1, d2, F1', F2', hd, _, k1, k2⟩, j, hj, hj' => by
    subst hc; subst hd
    have l1 := Rel_length w B _ _ _ _ h1
    have l2 := Rel_length w B _ _ _ _ k1
    obtain ⟨v, p1, p2, p3⟩ := run_part (w := w) hs (cs := pre ++ (c1 ++ c2)) (pre := pre) (mid := c1) (post := c2) (by simp) l1 (Rel_plain w B _ _ _ _ h1)
    obtain ⟨u, q1, q2, q3⟩ := run_part (w := w) hs (cs := pre' ++ (d1 ++ d2)) (pre := pre') (mid := d1) (post := d2) (by simp) l2 (Rel_plain w B _ _ _ _ k1)
    rw [hj] at p1
    rw [hj'] at q1
    have hgv := hg x y v u F1 F1' ⟨by rw [p2]; exact h1, p3⟩ ⟨by rw [q2]; exact k1, q3⟩
    simp only [List.length_cons, List.range'_succ, Op.eqItems, Sem.run_bind, p1, q1, Result.andThen_ok, hgv]
    have ih := run_eqItems hs hg xs ys c2 d2 (pre ++ c1) (pre' ++ d1) F2 F2' (by simpa using hl) h2 k2 (j + 1) (by simp [hj, l1, Nat.add_mul]) (by simp [hj', l2, Nat.add_mul])
    cases hb : g x y with
    | false => simp [eqLs, hb]
    | true =>
      simp only [Bool.not_true, Bool.false_eq_true, if_false, eqLs, hb, Bool.true_and]
      simpa using ih
  | [], _ :: _, _, _, _, _, _, _, hl, _, _, _, _, _ => by simp at hl
  | _ :: _, [], _, _, _, _, _, _, hl, _, _, _, _, _ => by simp at hl

theorem run_eqFields {P : Program} {w : World} {B : Nat → Prop} {f : TypeId → (t : Ty) → Option (T t → T t → Bool)} {d : Nat}
    (hf : ∀ (t : TypeId) (ty : Ty) (g : T ty → T ty → Bool), f t ty = some g → ∀ (x y : T ty) (v u : Value) F F', VR w B ty x v F → VR w B ty y u F' → (Op.equalIn d t v u).run P w = .ok (g x y) w) :
    ∀ (fs : List Field) (off : Nat) (c : Ty) (g : T c → T c → Bool), eqFs P f fs off c = some g → ∀ (x y : T c) (cs ds pre pre' : List Value) F F', Rel w B c x cs F → Rel w B c y ds F' → pre.length = off → pre'.length = off →
      (Op.eqFields d (pre ++ cs).toArray (pre' ++ ds).toArray fs).run P w = .ok (g x y) w := by
  intro fs
  induction fs with
  | nil =>
    intro off c g hg x y cs ds pre pre' F F' hx hy h1 h2
    cases c with
    | unit => simp only [eqFs, Option.some.injEq] at hg; subst hg; simp [Op.eqFields]
    | _ => simp [eqFs] at hg
  | cons fd fs ih =>
    intro off c g hg x y cs ds pre pre' F F' hx hy h1 h2
    cases c with
    | pair ta tb =>
      have hgen : ∃ ga gb, f fd.type ta = some ga ∧ eqFs P f fs (off + ta.size) tb = some gb ∧ (decide (fd.name ≠ "_") && Nat.beq fd.offset off && sizeOk P fd.type ta) = true ∧ ∀ p q, g p q = (ga p.1 q.1 && gb p.2 q.2) := by
        unfold eqFs at hg
        split at hg
        · rename_i hc
          split at hg
          · cases hfa : f fd.type ta with
            | none => rw [hfa] at hg; cases hg
            | some ga =>
              rw [hfa] at hg
              obtain rfl := Option.some.inj hg
              exact ⟨ga, fun _ _ => true, rfl, rfl, hc, fun p q => by simp⟩
          · cases hfa : f fd.type ta with
            | none => rw [hfa] at hg; cases hg
            | some ga =>
              rw [hfa] at hg
              simp only [Option.bind_some] at hg
              cases hfb : eqFs P f fs (off + ta.size) tb with
              | none => rw [hfb] at hg; cases hg
              | some gb =>
                rw [hfb] at hg
                obtain rfl := Option.some.inj hg
                exact ⟨ga, gb, rfl, rfl, hc, fun p q => rfl⟩
        · cases hg
      obtain ⟨ga, gb, hga, hgb, hc, hgg⟩ := hgen
      simp only [Bool.and_eq_true, decide_eq_true_eq] at hc
      obtain ⟨⟨hn, ho⟩, hsz⟩ := hc
      have ho := Nat.eq_of_beq_eq_true ho
      obtain ⟨c1, c2, F1, F2, rfl, _, k1, k2⟩ := hx
      obtain ⟨d1, d2, F1', F2', rfl, _, m1, m2⟩ := hy
      have l1 := Rel_length w B _ _ _ _ k1
      have l2 := Rel_length w B _ _ _ _ m1
      obtain ⟨v, p1, p2, p3⟩ := run_part (w := w) hsz (cs := pre ++ (c1 ++ c2)) (pre := pre) (mid := c1) (post := c2) (by simp) l1 (Rel_plain w B _ _ _ _ k1)
      obtain ⟨u, q1, q2, q3⟩ := run_part (w := w) hsz (cs := pre' ++ (d1 ++ d2)) (pre := pre') (mid := d1) (post := d2) (by simp) l2 (Rel_plain w B _ _ _ _ m1)
      rw [h1, ← ho] at p1
      rw [h2, ← ho] at q1
      have hgv := hf fd.type ta ga hga x.1 y.1 v u F1 F1' ⟨by rw [p2]; exact k1, p3⟩ ⟨by rw [q2]; exact m1, q3⟩
      have ihh := ih (off + ta.size) tb gb hgb x.2 y.2 c2 d2 (pre ++ c1) (pre' ++ d1) F2 F2' k2 m2 (by simp [h1, l1]) (by simp [h2, l2])
      rw [hgg]
      simp only [Op.eqFields, if_pos hn, Sem.run_bind, p1, q1, Result.andThen_ok, hgv]
      cases hb : ga x.1 y.1 with
      | false => simp
      | true => simpa using ihh
    | _ => simp [eqFs] at hg

theorem eqBy_ok {P : Program} {w : World} {B : Nat → Prop} : ∀ (n : Nat) (t : TypeId) (ty : Ty) (g : T ty → T ty → Bool), eqBy P n t ty = some g → ∀ (m : Nat), n ≤ m → ∀ (x y : T ty) (v u : Value) F F', VR w B ty x v F → VR w B ty y u F' →
    (Op.equalIn m t v u).run P w = .ok (g x y) w := by
  intro n
  induction n with
  | zero => intro t ty g hg; cases hg
  | succ n ih =>
    intro t ty g hg m hm x y v u F F' hx hy
    obtain ⟨m, rfl⟩ : ∃ k, m = k + 1 := ⟨m - 1, by omega⟩
    unfold eqBy at hg
    split at hg
    · rename_i hu
      cases ty <;> simp at hg
      subst hg
      obtain rfl := cells_one hx.1.1 hx.2
      obtain rfl := cells_one hy.1.1 hy.2
      rw [run_equalIn_bool' w m t _ _ hu]
      rfl
    · rename_i k hu
      cases ty <;> simp at hg
      subst hg
      obtain rfl := cells_one hx.1.1 hx.2
      obtain rfl := cells_one hy.1.1 hy.2
      rw [run_equalIn_int w m t _ _ _ _ hu]
      rfl
    · rename_i hu
      cases ty <;> simp at hg
      subst hg
      obtain ⟨b, h1, h2, _⟩ := hx.1
      obtain ⟨c, k1, k2, _⟩ := hy.1
      obtain rfl := cells_one h1 hx.2
      obtain rfl := cells_one k1 hy.2
      rw [run_equalIn_string w m t _ _ hu]
      subst h2; subst k2
      rw [str_eq]
    · rename_i fs hu
      cases ty <;> simp at hg
      rename_i c
      obtain ⟨hp, hg⟩ := hg
      obtain ⟨cs, rfl⟩ := cells_agg hx.2
      obtain ⟨ds, rfl⟩ := cells_agg hy.2
      have hf : P.fieldsOf t = fs := by simp [Program.fieldsOf, hu]
      rw [run_equalIn_struct w m t cs ds (by rw [hf]; exact hu) hp, hf]
      have := run_eqFields (w := w) (B := B) (d := m) (fun t ty g h x y v u F F' hx hy => ih t ty g h m (by omega) x y v u F F' hx hy) fs.toList 0 c g hg x y cs.toList ds.toList [] [] F F' hx.1 hy.1 rfl rfl
      simpa using this
    · rename_i l e hu
      cases ty <;> simp at hg
      rename_i c
      cases c <;> simp at hg
      rename_i l' e'
      obtain ⟨⟨h1, h2⟩, g', hg', rfl⟩ := hg
      obtain rfl : l = l' := by simpa using h1
      obtain ⟨cs, rfl⟩ := cells_agg hx.2
      obtain ⟨ds, rfl⟩ := cells_agg hy.2
      obtain ⟨i, hi, hs, _⟩ := sizeOk_info h2
      rw [run_equalIn_array w m cs ds hu hi]
      have hc : P.cellsOf e = e'.size := by simp [Program.cellsOf, hi, hs]
      obtain ⟨hl1, hx⟩ := hx.1
      obtain ⟨hl2, hy⟩ := hy.1
      have := run_eqItems (P := P) (w := w) (B := B) (d := m) h2 (fun x y v u F F' hx hy => ih e e' g' hg' m (by omega) x y v u F F' hx hy) x y cs.toList ds.toList [] [] F F' (hl1.trans hl2.symm) hx hy 0 (by simp) (by simp)
      rw [hc, List.range_eq_range', ← hl1]
      simpa using this
    · cases hg

end
end Go.Pv
