/- Single operations that leave the world alone: the machine's answer is the plain run's. -/
import Derived.Test.YtmjappidghjkjaaPvNum
import Derived.Laws.Entries
namespace Go.Pv
noncomputable section
universe u v

theorem bind_some {α : Type u} {β : Type v} {x : Option α} {f : α → Option β} {b : β} (h : x.bind f = some b) : ∃ a, x = some a ∧ f a = some b := Option.bind_eq_some_iff.1 h

section
variable {X : Cx} {st : St} {a : Act} {w : World} {B : Nat → Prop} {G : Nat → PG}

theorem isNil_ok {w : World} {B : Nat → Prop} : ∀ (t : Ty) (f : T t → Bool), isNil t = some f → ∀ (x : T t) (v : Value), Rel w B t x [v] [] → (f x = true → v = .nilIface) ∧ (f x = false → ∃ u z, v = .iface u z)
  | .nili, f, hf, x, v, h => by
    obtain rfl := Option.some.inj hf
    obtain ⟨h, _⟩ := h
    exact ⟨fun _ => (by simpa using h), fun h => Bool.noConfusion h⟩
  | .alt u t r, f, hf, x, v, h => by
    cases hr : isNil r with
    | none => simp [isNil, hr] at hf
    | some g =>
      simp only [isNil, hr, Option.map_some, Option.some.injEq] at hf
      subst hf
      obtain ⟨_, h⟩ := h
      cases x with
      | inl y => obtain ⟨z, h, _⟩ := h; exact ⟨fun h => Bool.noConfusion h, fun _ => ⟨u, z, by simpa using h⟩⟩
      | inr y => exact isNil_ok r g hr y v h.1
  | .int _, _, hf, _, _, _ => by simp [isNil] at hf
  | .bool, _, hf, _, _, _ => by simp [isNil] at hf
  | .str, _, hf, _, _, _ => by simp [isNil] at hf
  | .unit, _, hf, _, _, _ => by simp [isNil] at hf
  | .pair _ _, _, hf, _, _, _ => by simp [isNil] at hf
  | .agg _, _, hf, _, _, _ => by simp [isNil] at hf
  | .arr _ _, _, hf, _, _, _ => by simp [isNil] at hf
  | .slice _, _, hf, _, _, _ => by simp [isNil] at hf
  | .own _, _, hf, _, _, _ => by simp [isNil] at hf
  | .app _, _, hf, _, _, _ => by simp [isNil] at hf
  | .junk, _, hf, _, _, _ => by simp [isNil] at hf
  | .ptr _, _, hf, _, _, _ => by simp [isNil] at hf
  | .box _, _, hf, _, _, _ => by simp [isNil] at hf
  | .nils _, _, hf, _, _, _ => by simp [isNil] at hf
  | .nilp, _, hf, _, _, _ => by simp [isNil] at hf

theorem isNil_flat {t : Ty} {f : T t → Bool} (h : isNil t = some f) : t.isAgg = false ∧ t.size = 1 ∧ (∀ (w : World) B (x : T t) cs F, Rel w B t x cs F → F = []) := by
  cases t <;> first | (simp [isNil] at h; done) | exact ⟨rfl, rfl, fun w B x cs F h => by first | exact h.2 | exact h.1⟩

theorem run_eq_ptr {P : Program} {w : World} (d : Nat) {t pe : TypeId} (hu : P.underlying t = some (.pointer pe)) (o : Option Addr) : (Op.equalIn (d + 1) t (.pointer o) (.pointer none)).run P w = .ok o.isNone w := by
  simp only [Op.equalIn, Sem.run_bind, run_underlying hu, Result.andThen_ok]
  cases o <;> rfl

theorem run_eq_iface {P : Program} {w : World} (d : Nat) {t : TypeId} {ms : Array (String × TypeId)} (hu : P.underlying t = some (.interface ms)) :
    (Op.equalIn (d + 1) t .nilIface .nilIface).run P w = .ok true w ∧ ∀ u z, (Op.equalIn (d + 1) t (.iface u z) .nilIface).run P w = .ok false w := by
  simp only [Op.equalIn, Sem.run_bind, run_underlying hu, Result.andThen_ok]
  exact ⟨rfl, fun _ _ => rfl⟩

theorem run_eq_slice {P : Program} {w : World} (d : Nat) {t e : TypeId} (hu : P.underlying t = some (.slice e)) (o : Option Addr) (l c l' c' : Nat) : (Op.equalIn (d + 1) t (.slice o l c) (.slice none l' c')).run P w = .ok o.isNone w := by
  simp only [Op.equalIn, Sem.run_bind, run_underlying hu, Result.andThen_ok]
  cases o <;> rfl

theorem run_eq_func {P : Program} {w : World} (d : Nat) {t : TypeId} {ps rs : Array TypeId} {vr : Bool} (hu : P.underlying t = some (.func ps rs vr)) (f : Fn) (x y : Array Value) : (Op.equalIn (d + 1) t (.func f x y) .nilFunc).run P w = .ok false w := by
  simp only [Op.equalIn, Sem.run_bind, run_underlying hu, Result.andThen_ok]
  rfl

/-- nil or not: what the machine's comparison says, whatever the two values -/
theorem nilTest_ok (h : Inv X st a w B G) {u : TypeDesc} {e ey : EV} {v c : Value} {b : Bool} {xt : TypeId} (hu : X.P.underlying xt = some u)
    (he : EVR (tv a) w B G (look st) e v) (hy : EVR (tv a) w B G (look st) ey c) (hf : nilFits u ey = true) (ht : nilTest (look st) u e = some (some b)) :
    (Op.equal xt v c).run X.P w = .ok b w ∧ Value.agg? c = false ∧ ((∃ o, v = .pointer o ∧ c = .pointer none) ∨ ((v = .nilIface ∨ ∃ u z, v = .iface u z) ∧ c = .nilIface) ∨ (∃ o l cp, v = .slice o l cp ∧ c = .slice none 0 0) ∨ (∃ f x y, v = .func f x y ∧ c = .nilFunc)) := by
  show (Op.equalIn (9999 + 1) xt v c).run X.P w = .ok b w ∧ _
  generalize 9999 = dp
  cases u with
  | pointer pe =>
    have hc : c = .pointer none := by
      cases ey <;> simp only [nilFits] at hf <;> first | (cases hf; done) | skip
      rename_i cv
      cases cv <;> first | (cases hf; done) | skip
      rename_i ad
      cases ad <;> first | (cases hf; done) | skip
      simpa only [EVR] using hy
    subst hc
    have hsome : ∀ ad, v = .pointer (some ad) → (Op.equalIn (dp + 1) xt v (.pointer none)).run X.P w = .ok false w := by
      rintro ad rfl
      exact run_eq_ptr dp hu _
    have hnone : v = .pointer none → (Op.equalIn (dp + 1) xt v (.pointer none)).run X.P w = .ok true w := by
      rintro rfl
      exact run_eq_ptr dp hu _
    have hres : ((v = .pointer none ∧ b = true) ∨ (∃ ad, v = .pointer (some ad)) ∧ b = false) := by
      have hdat : ∀ e : EV, EVR (tv a) w B G (look st) e v → ((e.rd (look st)).bind fun d => match d with
          | ⟨.nilp, some _⟩ => some (some true)
          | ⟨.ptr _, o⟩ => some (o.map fun x => x.isNone)
          | ⟨.box _, o⟩ => some (o.map fun x => x.isNone)
          | _ => none) = some (some b) → ((v = .pointer none ∧ b = true) ∨ (∃ ad, v = .pointer (some ad)) ∧ b = false) := by
        intro e he ht
        obtain ⟨d, hd, ht⟩ := bind_some ht
        split at ht
        · simp only [Option.some.injEq] at ht
          subst ht
          obtain ⟨F, hR, ha⟩ := rd_ok h he hd
          exact .inl ⟨cells_one hR.1 ha, rfl⟩
        · rename_i t o
          simp only [Option.some.injEq, Option.map_eq_some_iff] at ht
          obtain ⟨o, rfl, rfl⟩ := ht
          obtain ⟨F, hR, ha⟩ := rd_ok h he hd
          obtain ⟨_, hR⟩ := hR
          cases o with
          | none => exact .inl ⟨cells_one hR ha, rfl⟩
          | some x => obtain ⟨b, off, cells, hR, _⟩ := hR; exact .inr ⟨⟨_, cells_one hR ha⟩, rfl⟩
        · rename_i t o
          simp only [Option.some.injEq, Option.map_eq_some_iff] at ht
          obtain ⟨o, rfl, rfl⟩ := ht
          obtain ⟨F, hR, ha⟩ := rd_ok h he hd
          cases o with
          | none => exact .inl ⟨cells_one hR.1 ha, rfl⟩
          | some x => obtain ⟨b, c, F', hR, _⟩ := hR; exact .inr ⟨⟨_, cells_one hR ha⟩, rfl⟩
        · cases ht
      cases e with
      | loc n p =>
        simp only [nilTest, Option.some.injEq] at ht
        simp only [EVR] at he
        obtain ⟨d, o, u, b', off, _, _, _, hv⟩ := he
        exact .inr ⟨⟨_, hv⟩, ht.symm⟩
      | oel n p e0 i q =>
        simp only [nilTest, Option.some.injEq] at ht
        simp only [EVR] at he
        obtain ⟨d, o, u, b', len, cap, qo, qu, _, _, _, _, hv⟩ := he
        exact .inr ⟨⟨_, hv⟩, ht.symm⟩
      | ref d =>
        simp only [nilTest, Option.some.injEq] at ht
        simp only [EVR] at he
        obtain ⟨_, b', o, cells, hv, _⟩ := he
        exact .inr ⟨⟨_, hv⟩, ht.symm⟩
      | cst cv =>
        cases cv with
        | pointer ad =>
          cases ad with
          | none =>
            simp only [nilTest, Option.some.injEq] at ht
            simp only [EVR] at he
            exact .inl ⟨he, ht.symm⟩
          | some ad => exact hdat _ he ht
        | _ => exact hdat _ he ht
      | _ => exact hdat _ he ht
    rcases hres with ⟨h1, rfl⟩ | ⟨⟨ad, h1⟩, rfl⟩
    · exact ⟨hnone h1, rfl, .inl ⟨_, h1, rfl⟩⟩
    · exact ⟨hsome ad h1, rfl, .inl ⟨_, h1, rfl⟩⟩
  | interface ms =>
    have hc : c = .nilIface := by
      cases ey <;> simp only [nilFits] at hf <;> first | (cases hf; done) | skip
      rename_i cv
      cases cv <;> first | (cases hf; done) | skip
      simpa only [EVR] using hy
    subst hc
    have hsome : ∀ t z, v = .iface t z → (Op.equalIn (dp + 1) xt v .nilIface).run X.P w = .ok false w := by
      rintro t z rfl
      exact (run_eq_iface dp hu).2 t z
    have hnone : v = .nilIface → (Op.equalIn (dp + 1) xt v .nilIface).run X.P w = .ok true w := by
      rintro rfl
      exact (run_eq_iface dp hu).1
    have hdat : ∀ e : EV, EVR (tv a) w B G (look st) e v → ((e.rd (look st)).bind fun d => (isNil d.ty).map fun f => d.val.map f) = some (some b) → (b = true → v = .nilIface) ∧ (b = false → ∃ u z, v = .iface u z) := by
      intro e he ht
      obtain ⟨d, hd, ht⟩ := bind_some ht
      obtain ⟨f, hf, ht⟩ := Option.map_eq_some_iff.1 ht
      obtain ⟨x, hx, rfl⟩ := Option.map_eq_some_iff.1 ht
      obtain ⟨t, ov⟩ := d
      cases ov with
      | none => cases hx
      | some x' =>
      obtain rfl := Option.some.inj hx
      obtain ⟨F, hR⟩ := rd_ok h he hd
      obtain ⟨k1, k2, k3⟩ := isNil_flat hf
      obtain rfl := k3 w B _ _ F hR.1
      have := hR.one k1 k2
      exact isNil_ok t f hf _ v this.2
    have hres : (b = true → v = .nilIface) ∧ (b = false → ∃ u z, v = .iface u z) := by
      cases e with
      | cst cv =>
        cases cv with
        | nilIface =>
          simp only [nilTest, Option.some.injEq] at ht
          simp only [EVR] at he
          subst ht
          exact ⟨fun _ => he, fun h => Bool.noConfusion h⟩
        | _ => exact hdat _ he ht
      | _ => exact hdat _ he ht
    cases b with
    | true => exact ⟨hnone (hres.1 rfl), rfl, .inr (.inl ⟨.inl (hres.1 rfl), rfl⟩)⟩
    | false =>
      obtain ⟨t, z, hv⟩ := hres.2 rfl
      exact ⟨hsome t z hv, rfl, .inr (.inl ⟨.inr ⟨t, z, hv⟩, rfl⟩)⟩
  | slice se =>
    have hc : c = .slice none 0 0 := by
      cases ey <;> simp only [nilFits] at hf <;> first | (cases hf; done) | skip
      split at hf
      · rename_i heq; cases heq; simpa only [EVR] using hy
      · cases hf
    subst hc
    have hv : ∃ o l cp, v = .slice o l cp ∧ b = o.isNone := by
      have hdat : ∀ e : EV, EVR (tv a) w B G (look st) e v → ((e.rd (look st)).bind fun d => match d with
          | ⟨.nils _, some _⟩ => some (some true)
          | ⟨.slice _, some xs⟩ => some (notNil xs)
          | _ => none) = some (some b) → ∃ o l cp, v = .slice o l cp ∧ b = o.isNone := by
        intro e he ht
        obtain ⟨d, hd, ht⟩ := bind_some ht
        split at ht
        · simp only [Option.some.injEq] at ht
          obtain ⟨F, hR, ha⟩ := rd_ok h he hd
          exact ⟨none, 0, 0, cells_one hR.1 ha, ht.symm⟩
        · rename_i et xs
          simp only [Option.some.injEq] at ht
          obtain ⟨F, hR, ha⟩ := rd_ok h he hd
          obtain ⟨_, sv, hsv, sa, cap, cells, hsv2, hle, _, _, _, _, hsa⟩ := hR
          have hsv := cells_one hsv ha
          refine ⟨sa, _, cap, hsv.trans hsv2, ?_⟩
          cases xs with
          | nil => cases ht
          | cons y ys =>
            have hb : b = false := (Option.some.inj ht).symm
            cases sa with
            | none =>
              have hsa : cap = 0 := hsa
              simp at hle
              omega
            | some ad => exact hb
        · cases ht
      simp only [nilTest] at ht
      split at ht
      · simp only [Option.some.injEq] at ht
        simp only [EVR] at he
        exact ⟨none, 0, 0, he, ht.symm⟩
      · exact hdat _ he ht
    obtain ⟨o, l, cp, rfl, rfl⟩ := hv
    exact ⟨run_eq_slice dp hu _ _ _ _ _, rfl, .inr (.inr (.inl ⟨_, _, _, rfl, rfl⟩))⟩
  | func ps rs vr =>
    have hc : c = .nilFunc := by
      cases ey <;> simp only [nilFits] at hf <;> first | (cases hf; done) | skip
      rename_i cv
      cases cv <;> first | (cases hf; done) | skip
      simpa only [EVR] using hy
    subst hc
    cases e <;> simp only [nilTest] at ht <;> first | (cases ht; done) | skip
    simp only [Option.some.injEq] at ht
    subst ht
    simp only [EVR] at he
    obtain ⟨vs, rfl, _⟩ := he
    exact ⟨run_eq_func dp hu _ _ _, rfl, .inr (.inr (.inr ⟨_, _, _, rfl, rfl⟩))⟩
  | _ => simp [nilTest] at ht

theorem eqBy_kinds {P : Program} {n : Nat} {t : TypeId} {ty : Ty} {f : T ty → T ty → Bool} (h : eqBy P n t ty = some f) (ha : ty.isAgg = false) : ty = .bool ∨ (∃ k, ty = .int k) ∨ ty = .str := by
  cases n with
  | zero => cases h
  | succ n =>
    unfold eqBy at h
    split at h
    · cases ty <;> simp at h; exact .inl rfl
    · cases ty <;> simp at h; exact .inr (.inl ⟨_, rfl⟩)
    · cases ty <;> simp at h; exact .inr (.inr rfl)
    · cases ty <;> simp at h; cases ha
    · cases ty <;> simp at h; cases ha
    · cases h

theorem eqBy_flat {P : Program} {n : Nat} {t : TypeId} {ty : Ty} {f : T ty → T ty → Bool} (h : eqBy P n t ty = some f) (ha : ty.isAgg = false) {w : World} {B : Nat → Prop} {x : T ty} {v : Value} {F : List Nat} (hv : VR w B ty x v F) : v ≠ .nilIface := by
  rcases eqBy_kinds h ha with rfl | ⟨k, rfl⟩ | rfl
  · rw [cells_one hv.1.1 hv.2]; simp
  · rw [cells_one hv.1.1 hv.2]; simp
  · obtain ⟨b, hc, _⟩ := hv.1; rw [cells_one hc hv.2]; simp

/-! ### two operands -/
theorem binOp_ok (h : Inv X st a w B G) {op : BinOp} {xt : TypeId} {x y : Operand} {ex ey : EV} {vx vy : Value} {r : ORes} {z : r.α}
    (hx : EVR (tv a) w B G (look st) ex vx) (hy : EVR (tv a) w B G (look st) ey vy) (he : binOp X.P (look st) op xt ex ey (isConst y) = some r) (hz : r.run = some z) :
    ∃ v, (do eqGuard op xt x y vx vy; Go.binOp op xt vx vy : Sem Value).run X.P w = .ok v w ∧ (r.out z).upd = [] ∧ EVR (tv a) w B G (look st) (r.out z).ev v := by
  unfold binOp at he
  split at he
  · -- nil
    split at he
    · rename_i hyc
      obtain ⟨u, hu, he⟩ := bind_some he
      split at he
      · rename_i hf
        obtain ⟨b, hb, he⟩ := bind_some he
        have key : ∀ b', b = some b' → (do eqGuard .eql xt x y vx vy; Go.binOp .eql xt vx vy : Go.Sem Value).run X.P w = .ok (.bool b') w ∧ (do eqGuard .neq xt x y vx vy; Go.binOp .neq xt vx vy : Go.Sem Value).run X.P w = .ok (.bool (!b')) w := by
          rintro b' rfl
          obtain ⟨h1, h3, h4⟩ := nilTest_ok h hu hx hy hf hb
          have hg : ∀ op, (eqGuard op xt x y vx vy).run X.P w = .ok () w := by
            intro op
            by_cases hn : vx = .nilIface ∧ vy = .nilIface
            · obtain ⟨rfl, rfl⟩ := hn
              cases y <;> simp only [isConst] at hyc <;> first | (cases hyc; done) | skip
              unfold eqGuard
              cases op <;> first | rfl | (cases x <;> rfl)
            · exact run_eqGuard_plain op xt x y vx vy (by
                by_cases h' : vx = .nilIface
                · exact .inr fun h'' => hn ⟨h', h''⟩
                · exact .inl h') (.inr h3)
          have hb2 : (Go.binOp .eql xt vx vy).run X.P w = .ok (.bool b') w ∧ (Go.binOp .neq xt vx vy).run X.P w = .ok (.bool (!b')) w := by
            rcases h4 with ⟨o, rfl, rfl⟩ | ⟨rfl | ⟨u, z, rfl⟩, rfl⟩ | ⟨o, l, cp, rfl, rfl⟩ | ⟨f, x', y', rfl, rfl⟩
            all_goals
              simp only [Go.binOp, Sem.run_bind, h1, Result.andThen_ok, Sem.run_pure]
              refine ⟨?_, ?_⟩ <;> first | rfl | trivial
          simp only [Sem.run_bind, hg, Result.andThen_ok]
          exact hb2
        split at he
        · obtain rfl := Option.some.inj he
          obtain ⟨k1, _⟩ := key z hz
          exact ⟨_, k1, rfl, by simp only [ODyn.res, EVR]; exact ⟨rfl, ⟨rfl, rfl⟩, rfl⟩⟩
        · obtain rfl := Option.some.inj he
          obtain ⟨b', hb', rfl⟩ := Option.map_eq_some_iff.1 hz
          obtain ⟨_, k2⟩ := key b' hb'
          exact ⟨_, k2, rfl, by simp only [ODyn.res, EVR]; exact ⟨rfl, ⟨rfl, rfl⟩, rfl⟩⟩
        · cases he
      · cases he
    · cases he
  · split at he
    · -- shl
      obtain ⟨⟨k, m⟩, hm, he⟩ := bind_some he
      obtain ⟨⟨k', n⟩, hn, he⟩ := Option.map_eq_some_iff.1 he
      subst he
      obtain ⟨m', hm', hz⟩ := bind_some hz
      obtain ⟨n', hn', hz⟩ := bind_some hz
      have hm' : m = some m' := hm'
      have hn' : n = some n' := hn'
      subst hm'; subst hn'
      obtain ⟨rfl, hr⟩ := int?_ok h hx hm
      obtain ⟨rfl, _⟩ := int?_ok h hy hn
      obtain ⟨k1, k2⟩ := (shift_ok (P := X.P) (w := w) (k' := k') (n := n') (z := z) hr xt).1 hz
      refine ⟨.int k z, ?_, rfl, by simp only [ODyn.res, EVR]; exact ⟨rfl, ⟨rfl, k2, rfl⟩, rfl⟩⟩
      simp only [Sem.run_bind, run_eqGuard_plain .shl xt x y (.int k m') (.int k' n') (.inl (by simp)) (.inl rfl), Result.andThen_ok, k1]
    · -- shr
      obtain ⟨⟨k, m⟩, hm, he⟩ := bind_some he
      obtain ⟨⟨k', n⟩, hn, he⟩ := Option.map_eq_some_iff.1 he
      subst he
      obtain ⟨m', hm', hz⟩ := bind_some hz
      obtain ⟨n', hn', hz⟩ := bind_some hz
      have hm' : m = some m' := hm'
      have hn' : n = some n' := hn'
      subst hm'; subst hn'
      obtain ⟨rfl, hr⟩ := int?_ok h hx hm
      obtain ⟨rfl, _⟩ := int?_ok h hy hn
      obtain ⟨k1, k2⟩ := (shift_ok (P := X.P) (w := w) (k' := k') (n := n') (z := z) hr xt).2 hz
      refine ⟨.int k z, ?_, rfl, by simp only [ODyn.res, EVR]; exact ⟨rfl, ⟨rfl, k2, rfl⟩, rfl⟩⟩
      simp only [Sem.run_bind, run_eqGuard_plain .shr xt x y (.int k m') (.int k' n') (.inl (by simp)) (.inl rfl), Result.andThen_ok, k1]
    · obtain ⟨ex', hfx, he⟩ := bind_some he
      obtain ⟨ey', hfy, he⟩ := bind_some he
      obtain ⟨da, hda, he⟩ := bind_some he
      obtain ⟨db, hdb, he⟩ := bind_some he
      have hx' := fix_ok hx hfx
      have hy' := fix_ok hy hfy
      split at he
      · split at he
        · rename_i hk
          subst hk
          obtain ⟨d, hd, rfl⟩ := Option.map_eq_some_iff.1 he
          obtain ⟨F1, hR1, ha1⟩ := rd_ok h hx' hda
          obtain ⟨F2, hR2, ha2⟩ := rd_ok h hy' hdb
          obtain rfl := cells_one hR1.1 ha1
          obtain rfl := cells_one hR2.1 ha2
          obtain ⟨u, k1, k2, k3⟩ := intOp_ok (P := X.P) (w := w) hR1.2.1 hR2.2.1 hd hz xt
          refine ⟨u, ?_, rfl, by simp only [ODyn.res, EVR]; exact ⟨k2, k3 B⟩⟩
          simp only [Sem.run_bind, run_eqGuard_plain op xt x y (.int _ _) (.int _ _) (.inl (by simp)) (.inl rfl), Result.andThen_ok]
          exact k1
        · cases he
      · obtain ⟨d, hd, rfl⟩ := Option.map_eq_some_iff.1 he
        obtain ⟨F1, hR1, ha1⟩ := rd_ok h hx' hda
        obtain ⟨F2, hR2, ha2⟩ := rd_ok h hy' hdb
        obtain ⟨b1, hc1, rfl, _⟩ := hR1
        obtain ⟨b2, hc2, rfl, _⟩ := hR2
        obtain rfl := cells_one hc1 ha1
        obtain rfl := cells_one hc2 ha2
        obtain ⟨u, k1, k2, k3⟩ := strOp_ok (P := X.P) (w := w) hd hz xt
        refine ⟨u, ?_, rfl, by simp only [ODyn.res, EVR]; exact ⟨k2, k3 B⟩⟩
        simp only [Sem.run_bind, run_eqGuard_plain op xt x y (.string b1) (.string b2) (.inl (by simp)) (.inl rfl), Result.andThen_ok]
        exact k1
      · rename_i s m t n hn1 hn2 _
        split at he
        · rename_i hst
          subst hst
          obtain ⟨f, hf, he⟩ := bind_some he
          split at hf
          · cases hf
          · rename_i hgt
            obtain ⟨F1, hR1⟩ := rd_ok h hx' hda
            obtain ⟨F2, hR2⟩ := rd_ok h hy' hdb
            have hq := eqBy_ok (w := w) (B := B) 40 xt _ f hf 10000 (by omega) m n vx vy F1 F2 hR1 hR2
            have hg : ∀ op, (eqGuard op xt x y vx vy).run X.P w = .ok () w := by
              intro op
              cases hgx : Value.agg? vx with
              | true =>
                cases hgy : Value.agg? vy with
                | true =>
                  obtain ⟨xs, rfl⟩ := cells_agg hgx
                  obtain ⟨ys, rfl⟩ := cells_agg hgy
                  exact run_eqGuard_agg w op xt x y xs ys (by simpa using hgt)
                | false => exact run_eqGuard_plain op xt x y vx vy (.inl (by rintro rfl; cases hgx)) (.inr hgy)
              | false =>
                exact run_eqGuard_plain op xt x y vx vy (.inl (eqBy_flat hf (by rw [← hR1.2]; exact hgx) hR1)) (.inl hgx)
            have hb : (Go.binOp .eql xt vx vy).run X.P w = .ok (.bool (f m n)) w ∧ (Go.binOp .neq xt vx vy).run X.P w = .ok (.bool (!f m n)) w := by
              cases hgx : Value.agg? vx with
              | true =>
                have hgy : Value.agg? vy = true := by rw [hR2.2, ← hR1.2]; exact hgx
                obtain ⟨xs, rfl⟩ := cells_agg hgx
                obtain ⟨ys, rfl⟩ := cells_agg hgy
                rw [run_eql_struct, run_neq_struct, hq]
                exact ⟨rfl, rfl⟩
              | false =>
                have hs := eqBy_kinds hf (by rw [← hR1.2]; exact hgx)
                rcases hs with rfl | ⟨k, rfl⟩ | rfl
                · obtain rfl := cells_one hR1.1.1 hgx
                  obtain rfl := cells_one hR2.1.1 hR2.2
                  have : ∀ t b c, (Go.binOp .eql t (.bool b) (.bool c)).run X.P w = ((Op.equalIn 10000 t (.bool b) (.bool c)).run X.P w).andThen (fun b w' => .ok (.bool b) w') ∧ (Go.binOp .neq t (.bool b) (.bool c)).run X.P w = ((Op.equalIn 10000 t (.bool b) (.bool c)).run X.P w).andThen (fun b w' => .ok (.bool (!b)) w') := by
                    intro t b c
                    simp only [Go.binOp]
                    simp [Op.equal, Op.maxDepth]
                  rw [(this xt m n).1, (this xt m n).2, hq]
                  exact ⟨rfl, rfl⟩
                · exact absurd (hn1 k m k n) (by simp)
                · exact absurd (hn2 m n) (by simp)
            split at he
            · obtain rfl := Option.some.inj he
              exact ⟨_, by simp only [Sem.run_bind, hg, Result.andThen_ok]; exact hb.1, rfl, by simp only [ORes.just, EVR]; exact ⟨rfl, ⟨rfl, rfl⟩, rfl⟩⟩
            · obtain rfl := Option.some.inj he
              exact ⟨_, by simp only [Sem.run_bind, hg, Result.andThen_ok]; exact hb.2, rfl, by simp only [ORes.just, EVR]; exact ⟨rfl, ⟨rfl, rfl⟩, rfl⟩⟩
            · cases he
        · cases he
      · cases he

end
end
end Go.Pv
