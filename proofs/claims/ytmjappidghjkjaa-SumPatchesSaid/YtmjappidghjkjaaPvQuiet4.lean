/- More single operations that leave the world alone: elements of arrays and strings, lengths, least and greatest, conversions, assertions. -/
import Derived.Test.YtmjappidghjkjaaPvQuiet3
namespace Go.Pv
noncomputable section
universe u v

section
variable {X : Cx} {st : St} {a : Act} {w : World} {B : Nat → Prop} {G : Nat → PG} {E : Operand → Option EV}

theorem bytes_get {s : ByteArray} {i : Nat} {b : Int} (h : (bytesOf s)[i]? = some b) : ∃ c : UInt8, s[i]? = some c ∧ (c.toNat : Int) = b := by
  unfold bytesOf at h
  rw [List.getElem?_map] at h
  obtain ⟨c, hc, rfl⟩ := Option.map_eq_some_iff.1 h
  refine ⟨c, ?_, rfl⟩
  have hc' : s.data[i]? = some c := by simpa using hc
  obtain ⟨hi, hg⟩ := Array.getElem?_eq_some_iff.1 hc'
  have hi' : i < s.size := hi
  rw [getElem?_pos s i hi']
  exact congrArg some hg

theorem op_index (h : Inv X st a w B G) (hE : EOk X st a w B G E) {o : Oper} {t : TypeId} {z y : Operand} (ho : o.op = .index t z y) {Γ : Nat → Option CSem} {dst : Nat} {r : ORes} (he : evalOp X.P Γ (look st) E dst (.index t z y) o.type = some r) {x : r.α} (hx : r.run = some x) :
    Does X st a w o (r.out x).ev (r.out x).upd := by
  simp only [evalOp] at he
  obtain ⟨ez, hez, he⟩ := bind_some he
  obtain ⟨ez', hfz, he⟩ := bind_some he
  obtain ⟨ey, hey, he⟩ := bind_some he
  obtain ⟨⟨k, i⟩, hi, he⟩ := bind_some he
  obtain ⟨q, hq, he⟩ := bind_some he
  have hvz := fix_ok (hE z ez hez) hfz
  have hvy := hE y ey hey
  split at he
  · rename_i m e m' e' xs hu
    split at he
    · rename_i hk
      simp only [Bool.and_eq_true] at hk
      obtain rfl := Nat.eq_of_beq_eq_true hk.1.1
      obtain rfl := Option.some.inj he
      obtain ⟨i', hi', hx⟩ := bind_some hx
      have hi2 : i = some i' := hi'
      subst hi2
      obtain ⟨hiv, _⟩ := int?_ok h hvy hi
      obtain ⟨h0, hxi⟩ := rdI_some hx
      obtain ⟨F, hR, ha⟩ := rd_ok h hvz hq
      obtain ⟨cs, hcs⟩ := cells_agg ha
      obtain ⟨hn, hR⟩ := hR
      obtain ⟨c1, c2, c3, F1, F2, F3, e1, e2, e3, e4, _⟩ := RelL_split (fun x cs F h => Rel_length w B e' x cs F h) _ _ _ _ _ hR hxi
      have hn : List.length (α := T e') xs = m := hn
      have hlt : i' < m := by
        have h1 := (List.getElem?_eq_some_iff.1 hxi).1
        have : i'.toNat < m := by rw [← hn]; exact h1
        omega
      have hc' : cs.toList = c1 ++ c2 ++ c3 := by rw [hcs] at e1; simpa [Value.cells] using e1
      obtain rfl := Rel_pure w B _ _ _ F2 hk.2 e4
      obtain ⟨v, k1, k2, k3⟩ := run_part (w := w) hk.1.2 hc' (Rel_length w B _ _ _ _ e4) (Rel_plain w B _ _ _ _ e4)
      refine Does.value (v := v) ?_ h ?_
      · rw [e3] at k1
        have k1 : (part e cs (i'.toNat * e'.size)).run X.P w = .ok v w := by simpa using k1
        simp [execOp, ho, hcs, Instr.index, underlying, hu, hiv, asIntOf, h0, hlt, run_sizeOf (w := w) hk.1.2, k1]
      · simp only [ODyn.res, EVR]
        exact ⟨hk.2, by rw [k2]; exact e4, k3⟩
    · cases he
  · rename_i s hu
    obtain rfl := Option.some.inj he
    obtain ⟨i', hi', hx⟩ := bind_some hx
    have hi2 : i = some i' := hi'
    subst hi2
    obtain ⟨hiv, _⟩ := int?_ok h hvy hi
    obtain ⟨h0, hxi⟩ := rdI_some hx
    obtain ⟨F, hR, ha⟩ := rd_ok h hvz hq
    obtain ⟨b, hb, hbs, hbl, _⟩ := hR
    have hb := cells_one hb ha
    subst hbs
    obtain ⟨c, hc, rfl⟩ := bytes_get hxi
    refine Does.value (v := .int .u8 c.toNat) ?_ h ?_
    · simp [execOp, ho, hb, Instr.index, underlying, hu, hiv, asIntOf, h0, hc]
    · simp only [ODyn.res, EVR]
      exact ⟨rfl, ⟨rfl, byte_inR c, rfl⟩, rfl⟩
  · cases he

theorem exec_builtin {ρ : Operand → Value} {o : Oper} {c : Call} {b : Builtin} (ho : o.op = .call c) (hc : c.callee = .builtin b) (P : Program) :
    ∃ cs, (execOp ρ o).run P w = (builtin b c.argTypes o.type cs (c.args.map ρ)).run P w := by
  refine ⟨c.args.map fun | .const _ => true | _ => false, ?_⟩
  simp only [execOp, ho, resolve, hc, Sem.run_bind, Sem.run_pure, Result.andThen_ok, invoke]
  rfl

theorem mapA {α β : Type} {f : α → β} {as : Array α} {l : List α} (h : as.toList = l) : as.map f = (l.map f).toArray := by
  subst h; apply Array.ext'; simp

theorem arr0 {α : Type} {as : Array α} {t : α} {l : List α} (h : as.toList = t :: l) : as[0]? = some t := by
  rw [← Array.getElem?_toList, h]; rfl
theorem arr1 {α : Type} {as : Array α} {t u : α} {l : List α} (h : as.toList = t :: u :: l) : as[1]? = some u := by
  rw [← Array.getElem?_toList, h]; rfl

theorem op_len (h : Inv X st a w B G) (hE : EOk X st a w B G E) {o : Oper} {c : Call} (ho : o.op = .call c) (hc : c.callee = .builtin .len) {Γ : Nat → Option CSem} {dst : Nat} {r : ORes} (he : evalOp X.P Γ (look st) E dst (.call c) o.type = some r) {x : r.α} (hx : r.run = some x) :
    Does X st a w o (r.out x).ev (r.out x).upd := by
  simp only [evalOp, hc] at he
  split at he
  · rename_i z t ts hz ht
    obtain ⟨ez, hez, he⟩ := bind_some he
    obtain ⟨ez', hfz, he⟩ := bind_some he
    obtain ⟨d, hd, he⟩ := bind_some he
    split at he
    · rename_i hfit
      obtain ⟨g, hg, rfl⟩ := Option.map_eq_some_iff.1 he
      have hv := fix_ok (hE z ez hez) hfz
      obtain ⟨ty, ov⟩ := d
      cases ov with
      | none => cases hx
      | some xv =>
      have hx2 : g xv = x := Option.some.inj hx
      obtain ⟨F, hR, ha⟩ := rd_ok h hv hd
      have hlen : ∀ n : Nat, n ≤ maxLen → x = (n : Int) → (Builtin.len_ c.argTypes o.type (c.args.map a.eval)).run X.P w = .ok (.int .i64 n) w → Does X st a w o (.val ⟨.int .i64, x⟩) [] := by
        intro n hn hxn hr
        refine Does.value (v := .int .i64 n) ?_ h ?_
        · obtain ⟨cs, hcs⟩ := exec_builtin (w := w) (ρ := a.eval) ho hc X.P
          rw [hcs]; simp [builtin, hr]
        · simp only [EVR]
          subst hxn
          exact ⟨rfl, ⟨rfl, len_inR hn, rfl⟩, rfl⟩
      have hrun : ∀ n : Nat, (∀ u, X.P.underlying t = some u → lenFits (some u) ty = true → (match u, a.eval z with | .string, .string s => s.size = n | .slice _, .slice _ m _ => m = n | _, _ => False)) →
          (Builtin.len_ c.argTypes o.type (c.args.map a.eval)).run X.P w = .ok (.int .i64 n) w := by
        intro n hn
        cases hu : X.P.underlying t with
        | none => rw [hu] at hfit; cases ty <;> cases hfit
        | some u =>
          rw [hu] at hfit
          have hn := hn u hu hfit
          unfold Builtin.len_
          rw [arr0 ht]
          simp only [mapA hz, List.map_cons, List.map_nil, List.getElem?_toArray, List.getElem?_cons_zero, Sem.run_bind, underlying, run_program, Result.andThen_ok, hu, Sem.run_pure]
          split at hn
          · rename_i s hs; simp [hs, hn, goInt]
          · rename_i e b m cp hs; simp [hs, hn, goInt]
          · cases hn
      simp only [ODyn.res]
      cases ty with
      | str =>
        obtain rfl := Option.some.inj hg
        obtain ⟨b, hb, hbs, hbl, _⟩ := hR
        have hb := cells_one hb ha
        refine hlen b.size hbl (by rw [← hx2, ← hbs]; exact congrArg Int.ofNat (bytesOf_length b)) (hrun _ fun u hu hf => ?_)
        cases u <;> first | (cases hf; done) | simp [hb]
      | slice e =>
        obtain rfl := Option.some.inj hg
        obtain ⟨_, v, hv1, sa, cap, cells, hsv, hle, hcap, _⟩ := hR
        have hv1 := cells_one hv1 ha
        subst hsv
        refine hlen (List.length (α := T e) xv) (Nat.le_trans hle hcap) hx2.symm (hrun _ fun u hu hf => ?_)
        cases u <;> first | (cases hf; done) | simp [hv1]
      | own e =>
        obtain rfl := Option.some.inj hg
        obtain ⟨v, hv1, hown⟩ := hR
        have hv1 := cells_one hv1 ha
        rcases hown with ⟨hb, hsv, _⟩ | ⟨b, cap, c, F', hsv, hle, hcap, _⟩
        · subst hsv
          have hb : xv = [] := hb
          subst hb
          refine hlen 0 (by omega) hx2.symm (hrun _ fun u hu hf => ?_)
          cases u <;> first | (cases hf; done) | simp [hv1]
        · subst hsv
          refine hlen (List.length (α := T e) xv) (Nat.le_trans hle hcap) hx2.symm (hrun _ fun u hu hf => ?_)
          cases u <;> first | (cases hf; done) | simp [hv1]
      | app e =>
        obtain rfl := Option.some.inj hg
        obtain ⟨v, hv1, hown⟩ := hR
        have hv1 := cells_one hv1 ha
        rcases hown with (⟨hb, hsv, _⟩ | ⟨b, cap, c, F', hsv, hle, hcap, _⟩) | ⟨_, sa, cap, cells, hsv, hle, hcap, _⟩
        · subst hsv
          have hb : xv = [] := hb
          subst hb
          refine hlen 0 (by omega) hx2.symm (hrun _ fun u hu hf => ?_)
          cases u <;> first | (cases hf; done) | simp [hv1]
        · subst hsv
          refine hlen (List.length (α := T e) xv) (Nat.le_trans hle hcap) hx2.symm (hrun _ fun u hu hf => ?_)
          cases u <;> first | (cases hf; done) | simp [hv1]
        · subst hsv
          refine hlen (List.length (α := T e) xv) (Nat.le_trans hle hcap) hx2.symm (hrun _ fun u hu hf => ?_)
          cases u <;> first | (cases hf; done) | simp [hv1]
      | nils e =>
        obtain rfl := Option.some.inj hg
        obtain ⟨hv1, _⟩ := hR
        have hv1 := cells_one hv1 ha
        refine hlen 0 (by omega) hx2.symm (hrun _ fun u hu hf => ?_)
        cases u <;> first | (cases hf; done) | simp [hv1]
      | _ => cases hg
    · cases he
  · cases he

theorem op_minmax (h : Inv X st a w B G) (hE : EOk X st a w B G E) {o : Oper} {c : Call} (ho : o.op = .call c) (hc : c.callee = .builtin .min ∨ c.callee = .builtin .max) {Γ : Nat → Option CSem} {dst : Nat} {r : ORes} (he : evalOp X.P Γ (look st) E dst (.call c) o.type = some r) {x : r.α} (hx : r.run = some x) :
    Does X st a w o (r.out x).ev (r.out x).upd := by
  rcases hc with hc | hc
  all_goals
    simp only [evalOp, hc] at he
    split at he
    · rename_i z y hz
      obtain ⟨ez, hez, he⟩ := bind_some he
      obtain ⟨ey, hey, he⟩ := bind_some he
      obtain ⟨⟨k, i⟩, hi, he⟩ := bind_some he
      obtain ⟨⟨k', j⟩, hj, he⟩ := bind_some he
      split at he
      · rename_i hk
        have hk : k = k' := hk
        subst hk
        obtain rfl := Option.some.inj he
        obtain ⟨i', hi', hx⟩ := bind_some hx
        obtain ⟨j', hj', hx⟩ := Option.map_eq_some_iff.1 hx
        have hi2 : i = some i' := hi'
        have hj2 : j = some j' := hj'
        subst hi2; subst hj2
        obtain ⟨hiv, hir⟩ := int?_ok h (hE z ez hez) hi
        obtain ⟨hjv, hjr⟩ := int?_ok h (hE y ey hey) hj
        refine Does.value (v := .int k x) ?_ h ?_
        · obtain ⟨cs, hcs⟩ := exec_builtin (w := w) (ρ := a.eval) ho hc X.P
          rw [hcs]
          have hx2 : _ = x := hx
          rw [← hx2]
          simp only [builtin, Builtin.min_, Builtin.max_, mapA hz, List.map_cons, List.map_nil, List.foldlM_cons, List.foldlM_nil, hiv, hjv, Builtin.min2, Builtin.max2, minI, maxI]
          by_cases hlt : i' ≤ j' <;> by_cases hlt2 : j' ≤ i' <;> simp [hlt, hlt2, Int.not_lt.2, Int.lt_of_not_ge] <;> omega
        · simp only [ODyn.res, EVR]
          have hx2 : _ = x := hx
          refine ⟨rfl, ⟨rfl, ?_, rfl⟩, rfl⟩
          rw [← hx2]
          simp only [minI, maxI]
          split <;> assumption
      · cases he
    · cases he

theorem run_convertInt {P : Program} {s t : TypeId} {k k' : IntKind} {n : Int} {d : TypeDesc} (hs : P.underlying s = some d) (ht : P.underlying t = some (.int k)) :
    (convert s t (.int k' n)).run P w = .ok (.int k (k.wrap n)) w := by
  unfold convert
  simp only [Sem.run_bind, underlying, run_program, Result.andThen_ok, hs, ht, Sem.run_pure]
  cases d <;> simp [Conv.intToInt]

theorem op_convert_int (h : Inv X st a w B G) {o : Oper} {s t : TypeId} {z : Operand} (ho : o.op = .convert s t z) {k k' : IntKind} {d : TypeDesc} (hs : X.P.underlying s = some d) (ht : X.P.underlying t = some (.int k)) {e : EV}
    (hv : EVR (tv a) w B G (look st) e (a.eval z)) {n : Int} (hr : e.rd (look st) = some ⟨.int k', some n⟩) : Does X st a w o (.val ⟨.int k, k.wrap n⟩) [] := by
  obtain ⟨F, hR, ha⟩ := rd_ok h hv hr
  have hv := cells_one hR.1 ha
  refine Does.value (v := .int k (k.wrap n)) ?_ h ?_
  · have hc := run_convertInt (w := w) (k' := k') (n := n) hs ht
    simp [execOp, ho, hv, hc]
  · simp only [EVR]
    exact ⟨rfl, ⟨rfl, wrap_inR k n, rfl⟩, rfl⟩

theorem op_convert_str (h : Inv X st a w B G) {o : Oper} {s t : TypeId} {z : Operand} (ho : o.op = .convert s t z) (hs : X.P.underlying s = some .string) (ht : X.P.underlying t = some .string) {e : EV}
    (hv : EVR (tv a) w B G (look st) e (a.eval z)) {n : List Int} (hr : e.rd (look st) = some ⟨.str, some n⟩) : Does X st a w o e [] := by
  obtain ⟨F, ⟨b, hb, _⟩, ha⟩ := rd_ok h hv hr
  have hv2 := cells_one hb ha
  refine Does.value (v := a.eval z) ?_ h hv
  simp [execOp, ho, hv2, convert, underlying, hs, ht]

/-! ### assertions -/
theorem noAlt_ok {u : Nat} : ∀ (t : Ty) (x : T t) (v : Value) (F : List Nat), noAlt u t = true → Rel w B t x [v] F → v = .nilIface ∨ ∃ t' v', v = .iface t' v' ∧ t' ≠ u
  | .nili, x, v, F, _, h => .inl (List.cons.inj h.1).1
  | .alt u' t r, x, v, F, hn, h => by
    simp only [noAlt, Bool.and_eq_true, Bool.not_eq_true'] at hn
    obtain ⟨_, h⟩ := h
    cases x with
    | inl y =>
      obtain ⟨v', hv, _⟩ := h
      refine .inr ⟨u', v', (List.cons.inj hv).1, fun e => ?_⟩
      subst e
      simp at hn
    | inr y => exact noAlt_ok r y v [] hn.2 h.1
  | .int _, _, _, _, hn, _ => by cases hn
  | .bool, _, _, _, hn, _ => by cases hn
  | .str, _, _, _, hn, _ => by cases hn
  | .unit, _, _, _, hn, _ => by cases hn
  | .pair _ _, _, _, _, hn, _ => by cases hn
  | .agg _, _, _, _, hn, _ => by cases hn
  | .arr _ _, _, _, _, hn, _ => by cases hn
  | .slice _, _, _, _, hn, _ => by cases hn
  | .app _, _, _, _, hn, _ => by cases hn
  | .own _, _, _, _, hn, _ => by cases hn
  | .junk, _, _, _, hn, _ => by cases hn
  | .ptr _, _, _, _, hn, _ => by cases hn
  | .box _, _, _, _, hn, _ => by cases hn
  | .nils _, _, _, _, hn, _ => by cases hn
  | .nilp, _, _, _, hn, _ => by cases hn

theorem getAlt_ok {u : Nat} : ∀ (t : Ty) (s : Ty) (g : T t → Option (T s)) (x : T t) (v : Value) (F : List Nat), getAlt u t = some ⟨s, g⟩ → Rel w B t x [v] F →
    match g x with
    | some y => ∃ v', v = .iface u v' ∧ Rel w B s y v'.cells.toList [] ∧ Value.agg? v' = s.isAgg
    | none => v = .nilIface ∨ ∃ t' v', v = .iface t' v' ∧ t' ≠ u
  | .alt u' t r, s, g, x, v, F, hg, h => by
    simp only [getAlt] at hg
    split at hg
    · rename_i hu
      obtain ⟨rfl, hna⟩ := hu
      simp only [Option.some.injEq, Sigma.mk.injEq] at hg
      obtain ⟨rfl, hg⟩ := hg
      obtain rfl := eq_of_heq hg
      obtain ⟨_, h⟩ := h
      cases x with
      | inl y =>
        obtain ⟨v', hv, h1, h2⟩ := h
        exact ⟨v', (List.cons.inj hv).1, h1, h2⟩
      | inr y => exact noAlt_ok r y v [] hna h.1
    · rename_i hu
      split at hg
      · cases hg
      rename_i hne
      obtain ⟨⟨s', g'⟩, hg', hgg⟩ := Option.map_eq_some_iff.1 hg
      simp only [Sigma.mk.injEq] at hgg
      obtain ⟨rfl, hgg⟩ := hgg
      obtain rfl := eq_of_heq hgg
      obtain ⟨_, h⟩ := h
      cases x with
      | inl y =>
        obtain ⟨v', hv, h1, h2⟩ := h
        refine .inr ⟨u', v', (List.cons.inj hv).1, fun e => ?_⟩
        exact hne e.symm
      | inr y => exact getAlt_ok r s' g' y v [] hg' h.1
  | .nili, _, _, _, _, _, hn, _ => by cases hn
  | .int _, _, _, _, _, _, hn, _ => by cases hn
  | .bool, _, _, _, _, _, hn, _ => by cases hn
  | .str, _, _, _, _, _, hn, _ => by cases hn
  | .unit, _, _, _, _, _, hn, _ => by cases hn
  | .pair _ _, _, _, _, _, _, hn, _ => by cases hn
  | .agg _, _, _, _, _, _, hn, _ => by cases hn
  | .arr _ _, _, _, _, _, _, hn, _ => by cases hn
  | .slice _, _, _, _, _, _, hn, _ => by cases hn
  | .app _, _, _, _, _, _, hn, _ => by cases hn
  | .own _, _, _, _, _, _, hn, _ => by cases hn
  | .junk, _, _, _, _, _, hn, _ => by cases hn
  | .ptr _, _, _, _, _, _, hn, _ => by cases hn
  | .box _, _, _, _, _, _, hn, _ => by cases hn
  | .nils _, _, _, _, _, _, hn, _ => by cases hn
  | .nilp, _, _, _, _, _, hn, _ => by cases hn

theorem zeroAs_ok {P : Program} {t : TypeId} {s : Ty} (h : zeroAs P t s = true) : ∃ z, (zeroValue t).run P w = .ok z w ∧ Rel w B s (dflt s) z.cells.toList [] ∧ Value.agg? z = s.isAgg := by
  unfold zeroAs at h
  split at h
  · rename_i z hz
    simp only [Bool.and_eq_true] at h
    cases hi : P.info? t with
    | none => rw [hi] at hz; cases hz
    | some i =>
      rw [hi] at hz
      have hz : i.zero = some z := hz
      refine ⟨z, by simp [zeroValue, typeInfo, hi, hz], ?_, ?_⟩
      · have h2 := h.2
        split at h2
        · rename_i hz2; exact isZ_all hz2
        · cases h2
      · have h1 := h.1
        rw [beq_iff_eq] at h1
        rw [← h1]
        cases z <;> rfl
  · cases h

theorem tup2 {tv : Nat → Value} {G : Nat → PG} {L : Look} {s : Ty} {x : T s} {v : Value} {b : Bool} (hp : s.pure = true) (hv : VR w B s x v []) :
    EVR tv w B G L (.tup [.val ⟨s, x⟩, .val ⟨.bool, b⟩]) (.tuple #[v, .bool b]) := by
  simp only [EVR, EVRL]
  refine ⟨_, rfl, v, [.bool b], rfl, ⟨hp, hv⟩, .bool b, [], rfl, ⟨rfl, ⟨rfl, rfl⟩, rfl⟩, rfl⟩

theorem op_typeAssert (h : Inv X st a w B G) (hE : EOk X st a w B G E) {o : Oper} {z : Operand} {xt at_ : TypeId} {commaOk : Bool} (ho : o.op = .typeAssert z xt at_ commaOk) {Γ : Nat → Option CSem} {dst : Nat} {r : ORes} (he : evalOp X.P Γ (look st) E dst (.typeAssert z xt at_ commaOk) o.type = some r) {x : r.α} (hx : r.run = some x) :
    Does X st a w o (r.out x).ev (r.out x).upd := by
  simp only [evalOp] at he
  obtain ⟨ez, hez, he⟩ := bind_some he
  obtain ⟨ez', hfz, he⟩ := bind_some he
  obtain ⟨d, hd, he⟩ := bind_some he
  have hv := fix_ok (hE z ez hez) hfz
  unfold assertOp at he
  split at he
  · cases he
  rename_i hni
  obtain ⟨u, hu, hi⟩ : ∃ u, X.P.underlying at_ = some u ∧ ∀ m, u ≠ .interface m := by
    cases hu : X.P.underlying at_ with
    | none => rw [hu] at hni; exact absurd rfl hni
    | some u => exact ⟨u, rfl, fun m hm => by rw [hu, hm] at hni; exact hni rfl⟩
  have hholds : ∀ v', a.eval z = .iface at_ v' → (execOp a.eval o).run X.P w = .ok (.value (if commaOk then .tuple #[v', .bool true] else v')) w := by
    intro v' hz
    simp only [execOp, ho, hz, Instr.typeAssert, underlying, Sem.run_bind, run_program, Result.andThen_ok, hu, Sem.run_pure]
    cases u <;> first | exact absurd rfl (hi _) | simp
  have hfails : ∀ zv, (zeroValue at_).run X.P w = .ok zv w → (a.eval z = .nilIface ∨ ∃ t' v', a.eval z = .iface t' v' ∧ t' ≠ at_) → commaOk = true → (execOp a.eval o).run X.P w = .ok (.value (.tuple #[zv, .bool false])) w := by
    intro zv hzv hz hok
    subst hok
    rcases hz with hz | ⟨t', v', hz, hne⟩
    · simp only [execOp, ho, hz, Instr.typeAssert, underlying, Sem.run_bind, run_program, Result.andThen_ok, hu, Sem.run_pure]
      cases u <;> first | exact absurd rfl (hi _) | simp [hzv]
    · simp only [execOp, ho, hz, Instr.typeAssert, underlying, Sem.run_bind, run_program, Result.andThen_ok, hu, Sem.run_pure]
      cases u <;> first | exact absurd rfl (hi _) | simp [hzv, hne]
  obtain ⟨ty, ov⟩ := d
  split at he
  · rename_i s g hg
    split at he
    · rename_i hp
      have hsh : ty.isAgg = false ∧ ty.size = 1 := by cases ty <;> first | exact ⟨rfl, rfl⟩ | (cases hg)
      cases hok : commaOk with
      | true =>
        rw [hok] at he
        simp only [if_true] at he
        split at he
        · rename_i hz0
          obtain rfl := Option.some.inj he
          obtain ⟨zv, hzv, hz1, hz2⟩ := zeroAs_ok (w := w) (B := B) hz0
          obtain ⟨xv, hxv, hx⟩ := Option.map_eq_some_iff.1 hx
          have hxv : ov = some xv := hxv
          subst hxv
          obtain ⟨F, hR⟩ := rd_ok h hv hd
          have hR := (hR.one hsh.1 hsh.2).2
          have hg2 := getAlt_ok ty s g xv _ F hg hR
          have hx : g xv = x := hx
          rw [hx] at hg2
          cases x with
          | some y =>
            obtain ⟨v', h1, h2, h3⟩ := hg2
            refine Does.value (v := .tuple #[v', .bool true]) ?_ h (tup2 hp ⟨h2, h3⟩)
            rw [hholds v' h1, hok]; rfl
          | none => exact Does.value (hfails zv hzv hg2 hok) h (tup2 hp ⟨hz1, hz2⟩)
        · cases he
      | false =>
        rw [hok] at he
        simp only [Bool.false_eq_true, if_false] at he
        obtain rfl := Option.some.inj he
        obtain ⟨xv, hxv, hx⟩ := bind_some hx
        have hxv : ov = some xv := hxv
        subst hxv
        obtain ⟨F, hR⟩ := rd_ok h hv hd
        have hR := (hR.one hsh.1 hsh.2).2
        have hg2 := getAlt_ok ty s g xv _ F hg hR
        have hx : g xv = some x := hx
        rw [hx] at hg2
        obtain ⟨v', h1, h2, h3⟩ := hg2
        refine Does.value (v := v') ?_ h ?_
        · rw [hholds v' h1, hok]; rfl
        · simp only [EVR]; exact ⟨hp, h2, h3⟩
    · cases he
  · split at he
    · rename_i hk
      simp only [Bool.and_eq_true] at hk
      obtain ⟨s, hs, he⟩ := bind_some he
      split at he
      · rename_i hz0
        obtain rfl := Option.some.inj he
        obtain ⟨zv, hzv, hz1, hz2⟩ := zeroAs_ok (w := w) (B := B) hz0
        cases ov with
        | none => cases hx
        | some xv =>
        obtain ⟨F, hR⟩ := rd_ok h hv hd
        have hsh : ty.isAgg = false ∧ ty.size = 1 := by
          have h2 := hk.2
          cases ty <;> first | exact ⟨rfl, rfl⟩ | (cases h2)
        have hR := (hR.one hsh.1 hsh.2).2
        exact Does.value (hfails zv hzv (noAlt_ok ty xv _ F hk.2 hR) hk.1) h (tup2 (tyOf_pure X.P 12 at_ s hs) ⟨hz1, hz2⟩)
      · cases he
    · cases he

end
end
end Go.Pv
