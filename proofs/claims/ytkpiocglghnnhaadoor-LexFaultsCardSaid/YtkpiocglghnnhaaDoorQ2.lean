/- A plain run of Go code, and that the machine does what it says. -/
import Derived.Laws.Entries
import Derived.Laws.IdiomCopy
import Derived.Deep.AppendSrc
import Derived.Laws.Tables
import Derived.Test.YtkpiocglghnnhaaDoorQ1

set_option linter.unusedSimpArgs false
set_option linter.unusedVariables false

namespace Go.Pv
noncomputable section
universe u v

theorem bind_some {α : Type u} {β : Type v} {x : Option α} {f : α → Option β} {b : β} (h : x.bind f = some b) : ∃ a, x = some a ∧ f a = some b := Option.bind_eq_some_iff.1 h

section
variable {X : Cx} {st : St} {a : Act} {w : World} {B : Nat → Prop} {G : Nat → PG}

theorem isNil_ok {w : World} {B : Nat → Prop} : ∀ (t : Ty) (f : T t → Bool), isNil t = some f → ∀ (x : T t) (v : Value), Rel w B t x [v] [] → (f x = true → v = .nilIface) ∧ (f x = false → ∃ u z, v = .iface u z)
 | .nili, f, hf, x, v, h => by
  obtain rfl := Option.some.inj hf
  obtain ⟨h, _⟩ := h
  exact ⟨fun _ => (by simpa using h), fun h => Bool.noConfusion h⟩
 | .alt u t r, f, hf, x, v, h => by
  cases hr : isNil r with
  | none => simp [isNil, hr] at hf
  | some g =>
   simp only [isNil, hr, Option.map_some, Option.some.injEq] at hf
   subst hf
   obtain ⟨_, h⟩ := h
   cases x with
   | inl y => obtain ⟨z, h, _⟩ := h; exact ⟨fun h => Bool.noConfusion h, fun _ => ⟨u, z, by simpa using h⟩⟩
   | inr y => exact isNil_ok r g hr y v h.1
 | .int _, _, hf, _, _, _ => by simp [isNil] at hf
 | .bool, _, hf, _, _, _ => by simp [isNil] at hf
 | .str, _, hf, _, _, _ => by simp [isNil] at hf
 | .unit, _, hf, _, _, _ => by simp [isNil] at hf
 | .pair _ _, _, hf, _, _, _ => by simp [isNil] at hf
 | .agg _, _, hf, _, _, _ => by simp [isNil] at hf
 | .arr _ _, _, hf, _, _, _ => by simp [isNil] at hf
 | .slice _, _, hf, _, _, _ => by simp [isNil] at hf
 | .own _, _, hf, _, _, _ => by simp [isNil] at hf
 | .app _, _, hf, _, _, _ => by simp [isNil] at hf
 | .junk, _, hf, _, _, _ => by simp [isNil] at hf
 | .ptr _, _, hf, _, _, _ => by simp [isNil] at hf
 | .box _, _, hf, _, _, _ => by simp [isNil] at hf
 | .nils _, _, hf, _, _, _ => by simp [isNil] at hf
 | .nilp, _, hf, _, _, _ => by simp [isNil] at hf

theorem isNil_flat {t : Ty} {f : T t → Bool} (h : isNil t = some f) : t.isAgg = false ∧ t.size = 1 ∧ (∀ (w : World) B (x : T t) cs F, Rel w B t x cs F → F = []) := by
 cases t <;> first | (simp [isNil] at h; done) | exact ⟨rfl, rfl, fun w B x cs F h => by first | exact h.2 | exact h.1⟩

theorem run_eq_ptr {P : Program} {w : World} (d : Nat) {t pe : TypeId} (hu : P.underlying t = some (.pointer pe)) (o : Option Addr) : (Op.equalIn (d + 1) t (.pointer o) (.pointer none)).run P w = .ok o.isNone w := by
 simp only [Op.equalIn, Sem.run_bind, run_underlying hu, Result.andThen_ok]
 cases o <;> rfl

theorem run_eq_iface {P : Program} {w : World} (d : Nat) {t : TypeId} {ms : Array (String × TypeId)} (hu : P.underlying t = some (.interface ms)) :
  (Op.equalIn (d + 1) t .nilIface .nilIface).run P w = .ok true w ∧ ∀ u z, (Op.equalIn (d + 1) t (.iface u z) .nilIface).run P w = .ok false w := by
 simp only [Op.equalIn, Sem.run_bind, run_underlying hu, Result.andThen_ok]
 exact ⟨rfl, fun _ _ => rfl⟩

theorem run_eq_slice {P : Program} {w : World} (d : Nat) {t e : TypeId} (hu : P.underlying t = some (.slice e)) (o : Option Addr) (l c l' c' : Nat) : (Op.equalIn (d + 1) t (.slice o l c) (.slice none l' c')).run P w = .ok o.isNone w := by
 simp only [Op.equalIn, Sem.run_bind, run_underlying hu, Result.andThen_ok]
 cases o <;> rfl

theorem run_eq_func {P : Program} {w : World} (d : Nat) {t : TypeId} {ps rs : Array TypeId} {vr : Bool} (hu : P.underlying t = some (.func ps rs vr)) (f : Fn) (x y : Array Value) : (Op.equalIn (d + 1) t (.func f x y) .nilFunc).run P w = .ok false w := by
 simp only [Op.equalIn, Sem.run_bind, run_underlying hu, Result.andThen_ok]
 rfl

theorem nilTest_ok (h : Inv X st a w B G) {u : TypeDesc} {e ey : EV} {v c : Value} {b : Bool} {xt : TypeId} (hu : X.P.underlying xt = some u)
  (he : EVR (tv a) w B G (look st) e v) (hy : EVR (tv a) w B G (look st) ey c) (hf : nilFits u ey = true) (ht : nilTest (look st) u e = some (some b)) :
  (Op.equal xt v c).run X.P w = .ok b w ∧ Value.agg? c = false ∧ ((∃ o, v = .pointer o ∧ c = .pointer none) ∨ ((v = .nilIface ∨ ∃ u z, v = .iface u z) ∧ c = .nilIface) ∨ (∃ o l cp, v = .slice o l cp ∧ c = .slice none 0 0) ∨ (∃ f x y, v = .func f x y ∧ c = .nilFunc)) := by
 show (Op.equalIn (9999 + 1) xt v c).run X.P w = .ok b w ∧ _
 generalize 9999 = dp
 cases u with
 | pointer pe =>
  have hc : c = .pointer none := by
   cases ey <;> simp only [nilFits] at hf <;> first | (cases hf; done) | skip
   rename_i cv
   cases cv <;> first | (cases hf; done) | skip
   rename_i ad
   cases ad <;> first | (cases hf; done) | skip
   simpa only [EVR] using hy
  subst hc
  have hsome : ∀ ad, v = .pointer (some ad) → (Op.equalIn (dp + 1) xt v (.pointer none)).run X.P w = .ok false w := by
   rintro ad rfl
   exact run_eq_ptr dp hu _
  have hnone : v = .pointer none → (Op.equalIn (dp + 1) xt v (.pointer none)).run X.P w = .ok true w := by
   rintro rfl
   exact run_eq_ptr dp hu _
  have hres : ((v = .pointer none ∧ b = true) ∨ (∃ ad, v = .pointer (some ad)) ∧ b = false) := by
   have hdat : ∀ e : EV, EVR (tv a) w B G (look st) e v → ((e.rd (look st)).bind fun d => match d with
     | ⟨.nilp, some _⟩ => some (some true)
     | ⟨.ptr _, o⟩ => some (o.map fun x => x.isNone)
     | ⟨.box _, o⟩ => some (o.map fun x => x.isNone)
     | _ => none) = some (some b) → ((v = .pointer none ∧ b = true) ∨ (∃ ad, v = .pointer (some ad)) ∧ b = false) := by
    intro e he ht
    obtain ⟨d, hd, ht⟩ := bind_some ht
    split at ht
    ·simp only [Option.some.injEq] at ht
     subst ht
     obtain ⟨F, hR, ha⟩ := rd_ok h he hd
     exact .inl ⟨cells_one hR.1 ha, rfl⟩
    ·rename_i t o
     simp only [Option.some.injEq, Option.map_eq_some_iff] at ht
     obtain ⟨o, rfl, rfl⟩ := ht
     obtain ⟨F, hR, ha⟩ := rd_ok h he hd
     obtain ⟨_, hR⟩ := hR
     cases o with
     | none => exact .inl ⟨cells_one hR ha, rfl⟩
     | some x => obtain ⟨b, off, cells, hR, _⟩ := hR; exact .inr ⟨⟨_, cells_one hR ha⟩, rfl⟩
    ·rename_i t o
     simp only [Option.some.injEq, Option.map_eq_some_iff] at ht
     obtain ⟨o, rfl, rfl⟩ := ht
     obtain ⟨F, hR, ha⟩ := rd_ok h he hd
     cases o with
     | none => exact .inl ⟨cells_one hR.1 ha, rfl⟩
     | some x => obtain ⟨b, c, F', hR, _⟩ := hR; exact .inr ⟨⟨_, cells_one hR ha⟩, rfl⟩
    ·cases ht
   cases e with
   | loc n p =>
    simp only [nilTest, Option.some.injEq] at ht
    simp only [EVR] at he
    obtain ⟨d, o, u, b', off, _, _, _, hv⟩ := he
    exact .inr ⟨⟨_, hv⟩, ht.symm⟩
   | oel n p e0 i q =>
    simp only [nilTest, Option.some.injEq] at ht
    simp only [EVR] at he
    obtain ⟨d, o, u, b', len, cap, qo, qu, _, _, _, _, hv⟩ := he
    exact .inr ⟨⟨_, hv⟩, ht.symm⟩
   | ref d =>
    simp only [nilTest, Option.some.injEq] at ht
    simp only [EVR] at he
    obtain ⟨_, b', o, cells, hv, _⟩ := he
    exact .inr ⟨⟨_, hv⟩, ht.symm⟩
   | cst cv =>
    cases cv with
    | pointer ad =>
     cases ad with
     | none =>
      simp only [nilTest, Option.some.injEq] at ht
      simp only [EVR] at he
      exact .inl ⟨he, ht.symm⟩
     | some ad => exact hdat _ he ht
    | _ => exact hdat _ he ht
   | _ => exact hdat _ he ht
  rcases hres with ⟨h1, rfl⟩ | ⟨⟨ad, h1⟩, rfl⟩
  ·exact ⟨hnone h1, rfl, .inl ⟨_, h1, rfl⟩⟩
  ·exact ⟨hsome ad h1, rfl, .inl ⟨_, h1, rfl⟩⟩
 | interface ms =>
  have hc : c = .nilIface := by
   cases ey <;> simp only [nilFits] at hf <;> first | (cases hf; done) | skip
   rename_i cv
   cases cv <;> first | (cases hf; done) | skip
   simpa only [EVR] using hy
  subst hc
  have hsome : ∀ t z, v = .iface t z → (Op.equalIn (dp + 1) xt v .nilIface).run X.P w = .ok false w := by
   rintro t z rfl
   exact (run_eq_iface dp hu).2 t z
  have hnone : v = .nilIface → (Op.equalIn (dp + 1) xt v .nilIface).run X.P w = .ok true w := by
   rintro rfl
   exact (run_eq_iface dp hu).1
  have hdat : ∀ e : EV, EVR (tv a) w B G (look st) e v → ((e.rd (look st)).bind fun d => (isNil d.ty).map fun f => d.val.map f) = some (some b) → (b = true → v = .nilIface) ∧ (b = false → ∃ u z, v = .iface u z) := by
   intro e he ht
   obtain ⟨d, hd, ht⟩ := bind_some ht
   obtain ⟨f, hf, ht⟩ := Option.map_eq_some_iff.1 ht
   obtain ⟨x, hx, rfl⟩ := Option.map_eq_some_iff.1 ht
   obtain ⟨t, ov⟩ := d
   cases ov with
   | none => cases hx
   | some x' =>
   obtain rfl := Option.some.inj hx
   obtain ⟨F, hR⟩ := rd_ok h he hd
   obtain ⟨k1, k2, k3⟩ := isNil_flat hf
   obtain rfl := k3 w B _ _ F hR.1
   have := hR.one k1 k2
   exact isNil_ok t f hf _ v this.2
  have hres : (b = true → v = .nilIface) ∧ (b = false → ∃ u z, v = .iface u z) := by
   cases e with
   | cst cv =>
    cases cv with
    | nilIface =>
     simp only [nilTest, Option.some.injEq] at ht
     simp only [EVR] at he
     subst ht
     exact ⟨fun _ => he, fun h => Bool.noConfusion h⟩
    | _ => exact hdat _ he ht
   | _ => exact hdat _ he ht
  cases b with
  | true => exact ⟨hnone (hres.1 rfl), rfl, .inr (.inl ⟨.inl (hres.1 rfl), rfl⟩)⟩
  | false =>
   obtain ⟨t, z, hv⟩ := hres.2 rfl
   exact ⟨hsome t z hv, rfl, .inr (.inl ⟨.inr ⟨t, z, hv⟩, rfl⟩)⟩
 | slice se =>
  have hc : c = .slice none 0 0 := by
   cases ey <;> simp only [nilFits] at hf <;> first | (cases hf; done) | skip
   split at hf
   ·rename_i heq; cases heq; simpa only [EVR] using hy
   ·cases hf
  subst hc
  have hv : ∃ o l cp, v = .slice o l cp ∧ b = o.isNone := by
   have hdat : ∀ e : EV, EVR (tv a) w B G (look st) e v → ((e.rd (look st)).bind fun d => match d with
     | ⟨.nils _, some _⟩ => some (some true)
     | ⟨.slice _, some xs⟩ => some (notNil xs)
     | _ => none) = some (some b) → ∃ o l cp, v = .slice o l cp ∧ b = o.isNone := by
    intro e he ht
    obtain ⟨d, hd, ht⟩ := bind_some ht
    split at ht
    ·simp only [Option.some.injEq] at ht
     obtain ⟨F, hR, ha⟩ := rd_ok h he hd
     exact ⟨none, 0, 0, cells_one hR.1 ha, ht.symm⟩
    ·rename_i et xs
     simp only [Option.some.injEq] at ht
     obtain ⟨F, hR, ha⟩ := rd_ok h he hd
     obtain ⟨_, sv, hsv, sa, cap, cells, hsv2, hle, _, _, _, _, hsa⟩ := hR
     have hsv := cells_one hsv ha
     refine ⟨sa, _, cap, hsv.trans hsv2, ?_⟩
     cases xs with
     | nil => cases ht
     | cons y ys =>
      have hb : b = false := (Option.some.inj ht).symm
      cases sa with
      | none =>
       have hsa : cap = 0 := hsa
       simp at hle
       omega
      | some ad => exact hb
    ·cases ht
   simp only [nilTest] at ht
   split at ht
   ·simp only [Option.some.injEq] at ht
    simp only [EVR] at he
    exact ⟨none, 0, 0, he, ht.symm⟩
   ·exact hdat _ he ht
  obtain ⟨o, l, cp, rfl, rfl⟩ := hv
  exact ⟨run_eq_slice dp hu _ _ _ _ _, rfl, .inr (.inr (.inl ⟨_, _, _, rfl, rfl⟩))⟩
 | func ps rs vr =>
  have hc : c = .nilFunc := by
   cases ey <;> simp only [nilFits] at hf <;> first | (cases hf; done) | skip
   rename_i cv
   cases cv <;> first | (cases hf; done) | skip
   simpa only [EVR] using hy
  subst hc
  cases e <;> simp only [nilTest] at ht <;> first | (cases ht; done) | skip
  simp only [Option.some.injEq] at ht
  subst ht
  simp only [EVR] at he
  obtain ⟨vs, rfl, _⟩ := he
  exact ⟨run_eq_func dp hu _ _ _, rfl, .inr (.inr (.inr ⟨_, _, _, rfl, rfl⟩))⟩
 | _ => simp [nilTest] at ht

theorem eqBy_kinds {P : Program} {n : Nat} {t : TypeId} {ty : Ty} {f : T ty → T ty → Bool} (h : eqBy P n t ty = some f) (ha : ty.isAgg = false) : ty = .bool ∨ (∃ k, ty = .int k) ∨ ty = .str := by
 cases n with
 | zero => cases h
 | succ n =>
  unfold eqBy at h
  split at h
  ·cases ty <;> simp at h; exact .inl rfl
  ·cases ty <;> simp at h; exact .inr (.inl ⟨_, rfl⟩)
  ·cases ty <;> simp at h; exact .inr (.inr rfl)
  ·cases ty <;> simp at h; cases ha
  ·cases ty <;> simp at h; cases ha
  ·cases h

theorem eqBy_flat {P : Program} {n : Nat} {t : TypeId} {ty : Ty} {f : T ty → T ty → Bool} (h : eqBy P n t ty = some f) (ha : ty.isAgg = false) {w : World} {B : Nat → Prop} {x : T ty} {v : Value} {F : List Nat} (hv : VR w B ty x v F) : v ≠ .nilIface := by
 rcases eqBy_kinds h ha with rfl | ⟨k, rfl⟩ | rfl
 ·rw [cells_one hv.1.1 hv.2]; simp
 ·rw [cells_one hv.1.1 hv.2]; simp
 ·obtain ⟨b, hc, _⟩ := hv.1; rw [cells_one hc hv.2]; simp

theorem run_sameAddr {P : Program} {w : World} (b o : Nat) : (sameAddr ⟨b, o, none⟩ ⟨b, o, none⟩).run P w = .ok true w := by
 simp [sameAddr]

theorem run_eq_ptr0 {P : Program} {w : World} (d : Nat) {t pe : TypeId} (hu : P.underlying t = some (.pointer pe)) (a : Addr) : (Op.equalIn (d + 1) t (.pointer none) (.pointer (some a))).run P w = .ok false w := by
 simp only [Op.equalIn, Sem.run_bind, run_underlying hu, Result.andThen_ok]
 rfl

theorem run_eq_ptr2 {P : Program} {w : World} (d : Nat) {t pe : TypeId} (hu : P.underlying t = some (.pointer pe)) {n : Nat} (hs : (Go.sizeOf pe).run P w = .ok n w) (hn : n ≠ 0) (b o : Nat) : (Op.equalIn (d + 1) t (.pointer (some ⟨b, o, none⟩)) (.pointer (some ⟨b, o, none⟩))).run P w = .ok true w := by
 simp only [Op.equalIn, Sem.run_bind, run_underlying hu, Result.andThen_ok, hs]
 rw [if_pos hn]
 exact run_sameAddr b o

theorem aliasEq_ok (h : Inv X st a w B G) {op : BinOp} {xt : TypeId} {x y : Operand} {ex ey : EV} {vx vy : Value} {r : ORes} {z : r.α}
  (hx : EVR (tv a) w B G (look st) ex vx) (hy : EVR (tv a) w B G (look st) ey vy) (he : aliasEq X.P xt op ex ey = some r) :
  ∃ v, (do eqGuard op xt x y vx vy; Go.binOp op xt vx vy : Sem Value).run X.P w = .ok v w ∧ (r.out z).upd = [] ∧ EVR (tv a) w B G (look st) (r.out z).ev v := by
 unfold aliasEq at he
 split at he
 ·rename_i t τ u t' τ' u'
  split at he
  ·rename_i ht
   obtain rfl := Nat.eq_of_beq_eq_true ht
   split at he
   ·rename_i e hu
    split at he
    ·rename_i hk
     simp only [Bool.and_eq_true, Bool.not_eq_true'] at hk
     obtain rfl := Option.some.inj he
     simp only [EVR] at hx hy
     obtain ⟨⟨_, ⟨_, hx1⟩, hxa⟩, _, hxp⟩ := hx
     obtain ⟨⟨_, ⟨_, hy1⟩, hya⟩, _, hyp⟩ := hy
     have hxp := hxp trivial
     have hyp := hyp trivial
     have hg : ∀ p q : Option Addr, (eqGuard .eql xt x y (.pointer p) (.pointer q)).run X.P w = .ok () w := fun p q => run_eqGuard_plain _ _ _ _ _ _ (.inl (by simp)) (.inl rfl)
     have hfin : ∀ (p q : Option Addr) (b : Bool), (Op.equal xt (.pointer p) (.pointer q)).run X.P w = .ok b w → (do eqGuard .eql xt x y (.pointer p) (.pointer q); Go.binOp .eql xt (.pointer p) (.pointer q) : Sem Value).run X.P w = .ok (.bool b) w := fun p q b hb => by
      simp only [Sem.run_bind, hg, Result.andThen_ok, Go.binOp, hb, Sem.run_pure]
     have hout : ∀ b : Bool, EVR (tv a) w B G (look st) (.val ⟨.bool, b⟩) (.bool b) := fun b => by
      simp only [EVR]
      exact ⟨rfl, ⟨rfl, rfl⟩, rfl⟩
     cases u with
     | none =>
      have e1 : vx = .pointer none := cells_one hx1 hxa
      subst e1
      cases u' with
      | none =>
       have e2 : vy = .pointer none := cells_one hy1 hya
       subst e2
       refine ⟨.bool true, hfin _ _ _ ?_, rfl, hout true⟩
       unfold Op.equal
       exact run_eq_ptr _ hu none
      | some v =>
       obtain ⟨b, off, cells, h1, _⟩ := hy1
       have e2 : vy = .pointer (some ⟨b, off, none⟩) := cells_one h1 hya
       subst e2
       refine ⟨.bool false, hfin _ _ _ ?_, rfl, hout false⟩
       unfold Op.equal
       exact run_eq_ptr0 _ hu _
     | some v0 =>
      obtain ⟨b0, off0, cells0, h0, _⟩ := hx1
      have e1 : vx = .pointer (some ⟨b0, off0, none⟩) := cells_one h0 hxa
      subst e1
      cases u' with
      | none =>
       have e2 : vy = .pointer none := cells_one hy1 hya
       subst e2
       refine ⟨.bool false, hfin _ _ _ ?_, rfl, hout false⟩
       unfold Op.equal
       exact run_eq_ptr _ hu (some _)
      | some v =>
       obtain ⟨b, off, cells, h1, _⟩ := hy1
       have e2 : vy = .pointer (some ⟨b, off, none⟩) := cells_one h1 hya
       subst e2
       rcases hxp with hxp | ⟨ux, hxp⟩
       ·cases hxp
       rcases hyp with hyp | ⟨uy, hyp⟩
       ·cases hyp
       rw [hxp] at hyp
       simp only [Value.iface.injEq, Value.pointer.injEq, Option.some.injEq, Addr.mk.injEq, and_true] at hyp
       obtain ⟨_, rfl, rfl⟩ := hyp
       refine ⟨.bool true, hfin _ _ _ ?_, rfl, hout true⟩
       have hs := run_sizeOf hk.1 w
       have hne : τ.size ≠ 0 := fun e => by rw [e] at hk; simp at hk
       unfold Op.equal
       exact run_eq_ptr2 _ hu hs hne b0 off0
    ·cases he
   ·cases he
  ·cases he
 ·cases he

theorem binOp_ok (h : Inv X st a w B G) {op : BinOp} {xt : TypeId} {x y : Operand} {ex ey : EV} {vx vy : Value} {r : ORes} {z : r.α}
  (hx : EVR (tv a) w B G (look st) ex vx) (hy : EVR (tv a) w B G (look st) ey vy) (he : binOp X.P (look st) op xt ex ey (isConst y) = some r) (hz : r.run = some z) :
  ∃ v, (do eqGuard op xt x y vx vy; Go.binOp op xt vx vy : Sem Value).run X.P w = .ok v w ∧ (r.out z).upd = [] ∧ EVR (tv a) w B G (look st) (r.out z).ev v := by
 unfold binOp at he
 split at he
 ·
  split at he
  ·rename_i hyc
   obtain ⟨u, hu, he⟩ := bind_some he
   split at he
   ·rename_i hf
    obtain ⟨b, hb, he⟩ := bind_some he
    have key : ∀ b', b = some b' → (do eqGuard .eql xt x y vx vy; Go.binOp .eql xt vx vy : Go.Sem Value).run X.P w = .ok (.bool b') w ∧ (do eqGuard .neq xt x y vx vy; Go.binOp .neq xt vx vy : Go.Sem Value).run X.P w = .ok (.bool (!b')) w := by
     rintro b' rfl
     obtain ⟨h1, h3, h4⟩ := nilTest_ok h hu hx hy hf hb
     have hg : ∀ op, (eqGuard op xt x y vx vy).run X.P w = .ok () w := by
      intro op
      by_cases hn : vx = .nilIface ∧ vy = .nilIface
      ·obtain ⟨rfl, rfl⟩ := hn
       cases y <;> simp only [isConst] at hyc <;> first | (cases hyc; done) | skip
       unfold eqGuard
       cases op <;> first | rfl | (cases x <;> rfl)
      ·exact run_eqGuard_plain op xt x y vx vy (by
        by_cases h' : vx = .nilIface
        ·exact .inr fun h'' => hn ⟨h', h''⟩
        ·exact .inl h') (.inr h3)
     have hb2 : (Go.binOp .eql xt vx vy).run X.P w = .ok (.bool b') w ∧ (Go.binOp .neq xt vx vy).run X.P w = .ok (.bool (!b')) w := by
      rcases h4 with ⟨o, rfl, rfl⟩ | ⟨rfl | ⟨u, z, rfl⟩, rfl⟩ | ⟨o, l, cp, rfl, rfl⟩ | ⟨f, x', y', rfl, rfl⟩
      all_goals
       simp only [Go.binOp, Sem.run_bind, h1, Result.andThen_ok, Sem.run_pure]
       refine ⟨?_, ?_⟩ <;> first | rfl | trivial
     simp only [Sem.run_bind, hg, Result.andThen_ok]
     exact hb2
    split at he
    ·obtain rfl := Option.some.inj he
     obtain ⟨k1, _⟩ := key z hz
     exact ⟨_, k1, rfl, by simp only [ODyn.res, EVR]; exact ⟨rfl, ⟨rfl, rfl⟩, rfl⟩⟩
    ·obtain rfl := Option.some.inj he
     obtain ⟨b', hb', rfl⟩ := Option.map_eq_some_iff.1 hz
     obtain ⟨_, k2⟩ := key b' hb'
     exact ⟨_, k2, rfl, by simp only [ODyn.res, EVR]; exact ⟨rfl, ⟨rfl, rfl⟩, rfl⟩⟩
    ·cases he
   ·cases he
  ·cases he
 ·split at he
  ·
   obtain ⟨⟨k, m⟩, hm, he⟩ := bind_some he
   obtain ⟨⟨k', n⟩, hn, he⟩ := Option.map_eq_some_iff.1 he
   subst he
   obtain ⟨m', hm', hz⟩ := bind_some hz
   obtain ⟨n', hn', hz⟩ := bind_some hz
   have hm' : m = some m' := hm'
   have hn' : n = some n' := hn'
   subst hm'; subst hn'
   obtain ⟨rfl, hr⟩ := int?_ok h hx hm
   obtain ⟨rfl, _⟩ := int?_ok h hy hn
   obtain ⟨k1, k2⟩ := (shift_ok (P := X.P) (w := w) (k' := k') (n := n') (z := z) hr xt).1 hz
   refine ⟨.int k z, ?_, rfl, by simp only [ODyn.res, EVR]; exact ⟨rfl, ⟨rfl, k2, rfl⟩, rfl⟩⟩
   simp only [Sem.run_bind, run_eqGuard_plain .shl xt x y (.int k m') (.int k' n') (.inl (by simp)) (.inl rfl), Result.andThen_ok, k1]
  ·
   obtain ⟨⟨k, m⟩, hm, he⟩ := bind_some he
   obtain ⟨⟨k', n⟩, hn, he⟩ := Option.map_eq_some_iff.1 he
   subst he
   obtain ⟨m', hm', hz⟩ := bind_some hz
   obtain ⟨n', hn', hz⟩ := bind_some hz
   have hm' : m = some m' := hm'
   have hn' : n = some n' := hn'
   subst hm'; subst hn'
   obtain ⟨rfl, hr⟩ := int?_ok h hx hm
   obtain ⟨rfl, _⟩ := int?_ok h hy hn
   obtain ⟨k1, k2⟩ := (shift_ok (P := X.P) (w := w) (k' := k') (n := n') (z := z) hr xt).2 hz
   refine ⟨.int k z, ?_, rfl, by simp only [ODyn.res, EVR]; exact ⟨rfl, ⟨rfl, k2, rfl⟩, rfl⟩⟩
   simp only [Sem.run_bind, run_eqGuard_plain .shr xt x y (.int k m') (.int k' n') (.inl (by simp)) (.inl rfl), Result.andThen_ok, k1]
  ·obtain ⟨ex', hfx, he⟩ := bind_some he
   obtain ⟨ey', hfy, he⟩ := bind_some he
   obtain ⟨da, hda, he⟩ := bind_some he
   obtain ⟨db, hdb, he⟩ := bind_some he
   have hx' := fix_ok hx hfx
   have hy' := fix_ok hy hfy
   split at he
   ·split at he
    ·rename_i hk
     subst hk
     obtain ⟨d, hd, rfl⟩ := Option.map_eq_some_iff.1 he
     obtain ⟨F1, hR1, ha1⟩ := rd_ok h hx' hda
     obtain ⟨F2, hR2, ha2⟩ := rd_ok h hy' hdb
     obtain rfl := cells_one hR1.1 ha1
     obtain rfl := cells_one hR2.1 ha2
     obtain ⟨u, k1, k2, k3⟩ := intOp_ok (P := X.P) (w := w) hR1.2.1 hR2.2.1 hd hz xt
     refine ⟨u, ?_, rfl, by simp only [ODyn.res, EVR]; exact ⟨k2, k3 B⟩⟩
     simp only [Sem.run_bind, run_eqGuard_plain op xt x y (.int _ _) (.int _ _) (.inl (by simp)) (.inl rfl), Result.andThen_ok]
     exact k1
    ·cases he
   ·obtain ⟨d, hd, rfl⟩ := Option.map_eq_some_iff.1 he
    obtain ⟨F1, hR1, ha1⟩ := rd_ok h hx' hda
    obtain ⟨F2, hR2, ha2⟩ := rd_ok h hy' hdb
    obtain ⟨b1, hc1, rfl, _⟩ := hR1
    obtain ⟨b2, hc2, rfl, _⟩ := hR2
    obtain rfl := cells_one hc1 ha1
    obtain rfl := cells_one hc2 ha2
    obtain ⟨u, k1, k2, k3⟩ := strOp_ok (P := X.P) (w := w) hd hz xt
    refine ⟨u, ?_, rfl, by simp only [ODyn.res, EVR]; exact ⟨k2, k3 B⟩⟩
    simp only [Sem.run_bind, run_eqGuard_plain op xt x y (.string b1) (.string b2) (.inl (by simp)) (.inl rfl), Result.andThen_ok]
    exact k1
   ·rename_i s m t n hn1 hn2 _
    split at he
    ·rename_i hst
     subst hst
     obtain ⟨f, hf, he⟩ := bind_some he
     split at hf
     ·cases hf
     ·rename_i hgt
      obtain ⟨F1, hR1⟩ := rd_ok h hx' hda
      obtain ⟨F2, hR2⟩ := rd_ok h hy' hdb
      have hq := eqBy_ok (w := w) (B := B) 40 xt _ f hf 10000 (by omega) m n vx vy F1 F2 hR1 hR2
      have hg : ∀ op, (eqGuard op xt x y vx vy).run X.P w = .ok () w := by
       intro op
       cases hgx : Value.agg? vx with
       | true =>
        cases hgy : Value.agg? vy with
        | true =>
         obtain ⟨xs, rfl⟩ := cells_agg hgx
         obtain ⟨ys, rfl⟩ := cells_agg hgy
         exact run_eqGuard_agg w op xt x y xs ys (by simpa using hgt)
        | false => exact run_eqGuard_plain op xt x y vx vy (.inl (by rintro rfl; cases hgx)) (.inr hgy)
       | false =>
        exact run_eqGuard_plain op xt x y vx vy (.inl (eqBy_flat hf (by rw [← hR1.2]; exact hgx) hR1)) (.inl hgx)
      have hb : (Go.binOp .eql xt vx vy).run X.P w = .ok (.bool (f m n)) w ∧ (Go.binOp .neq xt vx vy).run X.P w = .ok (.bool (!f m n)) w := by
       cases hgx : Value.agg? vx with
       | true =>
        have hgy : Value.agg? vy = true := by rw [hR2.2, ← hR1.2]; exact hgx
        obtain ⟨xs, rfl⟩ := cells_agg hgx
        obtain ⟨ys, rfl⟩ := cells_agg hgy
        rw [run_eql_struct, run_neq_struct, hq]
        exact ⟨rfl, rfl⟩
       | false =>
        have hs := eqBy_kinds hf (by rw [← hR1.2]; exact hgx)
        rcases hs with rfl | ⟨k, rfl⟩ | rfl
        ·obtain rfl := cells_one hR1.1.1 hgx
         obtain rfl := cells_one hR2.1.1 hR2.2
         have : ∀ t b c, (Go.binOp .eql t (.bool b) (.bool c)).run X.P w = ((Op.equalIn 10000 t (.bool b) (.bool c)).run X.P w).andThen (fun b w' => .ok (.bool b) w') ∧ (Go.binOp .neq t (.bool b) (.bool c)).run X.P w = ((Op.equalIn 10000 t (.bool b) (.bool c)).run X.P w).andThen (fun b w' => .ok (.bool (!b)) w') := by
          intro t b c
          simp only [Go.binOp]
          simp [Op.equal, Op.maxDepth]
         rw [(this xt m n).1, (this xt m n).2, hq]
         exact ⟨rfl, rfl⟩
        ·exact absurd (hn1 k m k n) (by simp)
        ·exact absurd (hn2 m n) (by simp)
      split at he
      ·obtain rfl := Option.some.inj he
       exact ⟨_, by simp only [Sem.run_bind, hg, Result.andThen_ok]; exact hb.1, rfl, by simp only [ORes.just, EVR]; exact ⟨rfl, ⟨rfl, rfl⟩, rfl⟩⟩
      ·obtain rfl := Option.some.inj he
       exact ⟨_, by simp only [Sem.run_bind, hg, Result.andThen_ok]; exact hb.2, rfl, by simp only [ORes.just, EVR]; exact ⟨rfl, ⟨rfl, rfl⟩, rfl⟩⟩
      ·cases he
    ·cases he
   ·cases he

end
end
end Go.Pv

namespace Go.Pv
noncomputable section
universe u v

section
variable {X : Cx} {st : St} {a : Act} {w : World} {B : Nat → Prop} {G : Nat → PG} {E : Operand → Option EV}

theorem unOp_ok (h : Inv X st a w B G) {op : UnOp} {xt : TypeId} {ex : EV} {vx : Value} {r : ORes} {z : r.α}
  (hx : EVR (tv a) w B G (look st) ex vx) (he : unOp X.P (look st) op xt ex = some r) (hz : r.run = some z) :
  ∃ v, (Op.unary op vx).run X.P w = .ok v w ∧ (r.out z).upd = [] ∧ EVR (tv a) w B G (look st) (r.out z).ev v := by
 unfold unOp at he
 obtain ⟨ex', hf, he⟩ := bind_some he
 obtain ⟨d, hd, he⟩ := bind_some he
 have hx' := fix_ok hx hf
 split at he
 ·obtain rfl := Option.some.inj he
  obtain ⟨F, hR, ha⟩ := rd_ok h hx' hd
  obtain rfl := cells_one hR.1 ha
  exact ⟨_, rfl, rfl, by simp only [ORes.just, EVR]; exact ⟨rfl, ⟨rfl, wrap_inR _ _, rfl⟩, rfl⟩⟩
 ·obtain rfl := Option.some.inj he
  obtain ⟨F, hR, ha⟩ := rd_ok h hx' hd
  obtain rfl := cells_one hR.1 ha
  exact ⟨_, rfl, rfl, by simp only [ORes.just, EVR]; exact ⟨rfl, ⟨rfl, wrap_inR _ _, rfl⟩, rfl⟩⟩
 ·obtain rfl := Option.some.inj he
  obtain ⟨F, hR, ha⟩ := rd_ok h hx' hd
  obtain rfl := cells_one hR.1 ha
  exact ⟨_, rfl, rfl, by simp only [ORes.just, EVR]; exact ⟨rfl, ⟨rfl, rfl⟩, rfl⟩⟩
 ·cases he

theorem loc_ok' (h : Inv X st a w B G) {n : Nat} {p : Path} {v : Value} (he : EVR (tv a) w B G (look st) (.loc n p) v) {y : ODyn} {x : T y.ty} (hy : listAt (look st) n p = some y) (hv : y.val = some x) :
  ∃ b o cs F, v = .pointer (some ⟨b, o, none⟩) ∧ Rows w b o cs ∧ Rel w B y.ty x cs F ∧ ∃ d o', look st n = some d ∧ offP d.ty p = some (o', y.ty) ∧ cs = ((G n).cells.drop o').take y.ty.size := by
 simp only [EVR] at he
 obtain ⟨d, o, u, b, off, hd, ho, hg, rfl⟩ := he
 simp only [listAt, hd, Option.bind_some] at hy
 obtain ⟨hR, hA⟩ := h.pl n d hd
 rw [hg] at hA
 obtain ⟨o', pre, mid, post, F1, F2, F3, ho', hc, hl, hF, hm, _⟩ := getP_rel p d.ty d.val y x _ _ hy hv hR
 rw [ho] at ho'
 simp only [Option.some.injEq, Prod.mk.injEq] at ho'
 obtain ⟨rfl, rfl⟩ := ho'
 refine ⟨b, off + o, mid, F2, rfl, ?_, hm, d, o, hd, ho, ?_⟩
 rotate_left
 ·rw [hc, List.append_assoc, List.drop_append_of_le_length (by omega), ← hl, List.drop_length, List.nil_append, ← Rel_length w B _ _ _ _ hm, List.take_left']
  rfl
 intro i c hi
 have := hA.1 (o + i) c (by
  rw [hc, List.append_assoc, List.getElem?_append_right (by omega), hl]
  rw [Nat.add_sub_cancel_left, List.getElem?_append_left]
  ·exact hi
  ·exact (List.getElem?_eq_some_iff.1 hi).1)
 rw [Nat.add_assoc]; exact this

theorem loc_ok (h : Inv X st a w B G) {n : Nat} {p : Path} {v : Value} (he : EVR (tv a) w B G (look st) (.loc n p) v) {y : ODyn} {x : T y.ty} (hy : listAt (look st) n p = some y) (hv : y.val = some x) :
  ∃ b o cs F, v = .pointer (some ⟨b, o, none⟩) ∧ Rows w b o cs ∧ Rel w B y.ty x cs F := by
 obtain ⟨b, o, cs, F, h1, h2, h3, _⟩ := loc_ok' h he hy hv
 exact ⟨b, o, cs, F, h1, h2, h3⟩

theorem oel_ok (h : Inv X st a w B G) {n : Nat} {p q : Path} {e : Ty} {i : Int} {v : Value} (he : EVR (tv a) w B G (look st) (.oel n p e i q) v) {xs : List (T e)} (hy : listAt (look st) n p = some ⟨.own e, some xs⟩)
  {z : ODyn} {x : T z.ty} (hz : getP ⟨e, rdI xs i⟩ q = some z) (hv : z.val = some x) :
  ∃ b o cs F, v = .pointer (some ⟨b, o, none⟩) ∧ Rows w b o cs ∧ Rel w B z.ty x cs F := by
 simp only [EVR] at he
 obtain ⟨d, o, u, b, len, cap, qo, qu, hd, ho, hc, hq, rfl⟩ := he
 simp only [listAt, hd, Option.bind_some] at hy
 obtain ⟨hR, hA⟩ := h.pl n d hd
 obtain ⟨o', pre, mid, post, F1, F2, F3, ho', hcs, hl, hF, hm, _⟩ := getP_rel p d.ty d.val _ xs _ _ hy rfl hR
 rw [ho] at ho'
 simp only [Option.some.injEq, Prod.mk.injEq] at ho'
 obtain ⟨rfl, _⟩ := ho'
 obtain ⟨sv, hmid, hown⟩ := hm
 subst hmid
 rw [hcs, List.append_assoc, List.getElem?_append_right (by omega), hl, Nat.sub_self] at hc
 simp only [List.cons_append, List.nil_append, List.getElem?_cons_zero, Option.some.injEq] at hc
 subst hc
 cases hx : rdI xs i with
 | none =>
  rw [hx] at hz
  rw [getP_none q e z hz] at hv
  cases hv
 | some y =>
  rw [hx] at hz
  obtain ⟨h0, hi⟩ := rdI_some hx
  rcases hown with ⟨_, hbad, _⟩ | ⟨b', cap', c, F', hsv, h1, h2, h3, h4, h5, h6⟩
  ·simp at hbad
  ·simp only [Value.slice.injEq, Option.some.injEq, Addr.mk.injEq, and_true] at hsv
   obtain ⟨rfl, rfl, rfl⟩ := hsv
   obtain ⟨c1, c2, c3, G1, G2, G3, e1, e2, e3, e4, _⟩ := RelL_split (fun x cs F h => Rel_length w B e x cs F h) xs _ _ _ y h5 hi
   obtain ⟨o2, pre2, mid2, post2, H1, H2, H3, k1, k2, k3, k4, k5, _⟩ := getP_rel q e y z x c2 G2 hz hv e4
   rw [hq] at k1
   simp only [Option.some.injEq, Prod.mk.injEq] at k1
   obtain ⟨rfl, rfl⟩ := k1
   refine ⟨b, i.toNat * e.size + qo, mid2, H2, rfl, ?_, k5⟩
   intro j cc hj
   rw [h3.cell]
   have hjl : j < mid2.length := (List.getElem?_eq_some_iff.1 hj).1
   have : (c.toList.take (xs.length * e.size))[i.toNat * e.size + qo + j]? = some cc := by
    rw [e1, k2]
    rw [List.append_assoc, List.getElem?_append_right (by rw [e3]; omega), e3]
    rw [show i.toNat * e.size + qo + j - i.toNat * e.size = qo + j by omega]
    rw [List.append_assoc, List.append_assoc, List.getElem?_append_right (by omega), k3, Nat.add_sub_cancel_left]
    rw [List.getElem?_append_left hjl]
    exact hj
   have := take_getElem? this
   simpa using this

theorem load_of {t : TypeId} {ty : Ty} {x : T ty} (hs : sizeOk X.P t ty = true) (hp : ty.pure = true) {v : Value} {b o : Nat} {cs : List Value} {F : List Nat} (hv : v = .pointer (some ⟨b, o, none⟩)) (hr : Rows w b o cs) (hR : Rel w B ty x cs F) :
  ∃ u, (Instr.loadAt t v).run X.P w = .ok u w ∧ EVR (tv a) w B G (look st) (.val ⟨ty, x⟩) u := by
 subst hv
 obtain rfl := Rel_pure w B ty x cs F hp hR
 obtain ⟨u, h1, h2, h3⟩ := run_loadVar (w := w) hs hr (Rel_length w B ty x cs _ hR) (Rel_plain w B ty x cs _ hR)
 refine ⟨u, by simp [Instr.loadAt, Instr.sureAddr, h1], ?_⟩
 simp only [EVR]
 exact ⟨hp, by rw [h2]; exact hR, h3⟩

theorem op_load (h : Inv X st a w B G) (hE : EOk X st a w B G E) {o : Oper} {t : TypeId} {z : Operand} (ho : o.op = .load t z) {Γ : Nat → Option CSem} {dst : Nat} {r : ORes} (he : evalOp X.P Γ (look st) E dst (.load t z) o.type = some r) {x : r.α} (hx : r.run = some x) :
  Does X st a w o (r.out x).ev (r.out x).upd := by
 simp only [evalOp] at he
 obtain ⟨ea, hea, he⟩ := bind_some he
 have hv := hE z ea hea
 have hrun : ∀ u, (Instr.loadAt t (a.eval z)).run X.P w = .ok u w → (execOp a.eval o).run X.P w = .ok (.value u) w := by
  intro u hu; simp [execOp, ho, hu]
 cases ea with
 | loc n p =>
  obtain ⟨y, hy, he⟩ := bind_some he
  split at he
  ·rename_i hs
   split at he
   ·rename_i hp
    obtain rfl := Option.some.inj he
    obtain ⟨b, off, cs, F, h1, h2, h3⟩ := loc_ok h hv hy hx
    obtain ⟨u, k1, k2⟩ := load_of (st := st) (a := a) (G := G) hs hp h1 h2 h3
    exact Does.value (hrun u k1) h k2
   ·obtain rfl := Option.some.inj he

    obtain ⟨b, off, cs, F, h1, h2, h3, d, o', hd, ho', hcs⟩ := loc_ok' h hv hy hx
    obtain ⟨u, k1, k2, k3⟩ := run_loadVar (w := w) hs h2 (Rel_length w B _ x cs _ h3) (Rel_plain w B _ x cs _ h3)
    refine Does.value (v := u) (hrun u (by rw [h1]; simp [Instr.loadAt, Instr.sureAddr, k1])) h ?_
    simp only [ODyn.res, EVR]
    exact ⟨d, o', _, hd, ho', by rw [k2]; exact hcs, k3⟩
  ·cases he
 | ref d =>
  simp only [] at he
  split at he
  ·rename_i hs
   obtain rfl := Option.some.inj he
   simp only [EVR] at hv
   obtain ⟨hp, b, off, cells, h1, h2, h3, h4⟩ := hv
   obtain ⟨u, k1, k2⟩ := load_of (st := st) (a := a) (G := G) hs hp h1 h3 h4
   exact Does.value (hrun u k1) h k2
  ·cases he
 | oel n p e0 i q =>
  obtain ⟨y, hy, he⟩ := bind_some he
  split at he
  ·split at he
   ·rename_i he0
    subst he0
    obtain ⟨zz, hzz, he⟩ := bind_some he
    split at he
    ·rename_i hs
     simp only [Bool.and_eq_true] at hs
     obtain rfl := Option.some.inj he
     obtain ⟨b, off, cs, F, h1, h2, h3⟩ := oel_ok h hv hy hzz hx
     obtain ⟨u, k1, k2⟩ := load_of (st := st) (a := a) (G := G) hs.1 hs.2 h1 h2 h3
     exact Does.value (hrun u k1) h k2
    ·cases he
   ·cases he
  ·cases he
 | _ => cases he

theorem op_nilCheck (h : Inv X st a w B G) (hE : EOk X st a w B G E) {o : Oper} {z : Operand} (ho : o.op = .nilCheck z) {Γ : Nat → Option CSem} {dst : Nat} {r : ORes} (he : evalOp X.P Γ (look st) E dst (.nilCheck z) o.type = some r) {x : r.α} (hx : r.run = some x) :
  Does X st a w o (r.out x).ev (r.out x).upd := by
 simp only [evalOp] at he
 obtain ⟨ea, hea, he⟩ := bind_some he
 have hv := hE z ea hea
 have hptr : ∀ ad, a.eval z = .pointer (some ad) → (execOp a.eval o).run X.P w = .ok (.value (a.eval z)) w := by
  intro ad hu; simp [execOp, ho, hu]
 have hdat : ∀ e : EV, EVR (tv a) w B G (look st) e (a.eval z) → ((e.rd (look st)).bind fun d => match d with
    | ⟨.ptr t, o⟩ => if t.pure then some (⟨o.bind id, Pv.dflt t, fun v => ⟨.ref ⟨t, v⟩, []⟩⟩ : ORes) else none
    | _ => none) = some r → Does X st a w o (r.out x).ev (r.out x).upd := by
  intro e hv he
  obtain ⟨d, hd, he⟩ := bind_some he
  split at he
  ·rename_i t ov
   split at he
   ·rename_i hp
    obtain rfl := Option.some.inj he
    obtain ⟨y, hy, hyx⟩ := bind_some hx
    have hyx : y = some x := hyx
    cases ov with
    | none => cases hy
    | some ov =>
     have : ov = y := Option.some.inj hy
     rw [this, hyx] at hd
     obtain ⟨F, hR, ha⟩ := rd_ok h hv hd
     obtain ⟨_, b, off, cells, hc, hB, hr, hR⟩ := hR
     have hv := cells_one hc ha
     refine Does.value (hptr _ hv) h ?_
     simp only [EVR]
     exact ⟨hp, b, off, cells, hv, .inl hB, hr, hR⟩
   ·cases he
  ·cases he
 cases ea with
 | loc n p =>
  obtain rfl := Option.some.inj he
  have hv' := hv
  simp only [EVR] at hv'
  obtain ⟨_, _, _, b, off, _, _, _, hvv⟩ := hv'
  exact Does.value (hptr _ hvv) h hv
 | oel n p e0 i q =>
  obtain rfl := Option.some.inj he
  have hv' := hv
  simp only [EVR] at hv'
  obtain ⟨_, _, _, b, _, _, _, _, _, _, _, _, hvv⟩ := hv'
  exact Does.value (hptr _ hvv) h hv
 | ref d =>
  obtain rfl := Option.some.inj he
  have hv' := hv
  simp only [EVR] at hv'
  obtain ⟨_, b, _, _, hvv, _⟩ := hv'
  exact Does.value (hptr _ hvv) h hv
 | fn f c =>
  obtain rfl := Option.some.inj he
  have hv' := hv
  simp only [EVR] at hv'
  obtain ⟨vs, hvv, _⟩ := hv'
  exact Does.value (v := a.eval z) (by simp [execOp, ho, hvv]) h hv
 | _ => exact hdat _ hv he

theorem fld_off {t : Ty} {f o : Nat} {u : Ty} (h : offS t (.fld f) = some (o, u)) (p : Path) {t0 : Ty} {o0 : Nat} (h0 : offP t0 p = some (o0, t)) : offP t0 (p ++ [.fld f]) = some (o0 + o, u) := by
 rw [offP_append, h0]
 simp [offP, h]

theorem run_fieldPlace {P : Program} {fd : Field} {u : Ty} (h : sizeOk P fd.type u = true) (hz : Nat.beq u.size 0 = false) (b o : Nat) : (fieldPlace ⟨b, o, none⟩ fd).run P w = .ok ⟨b, o + fd.offset, none⟩ w := by
 have : ¬ u.size = 0 := fun h => by rw [h] at hz; cases hz
 unfold fieldPlace
 simp only [Sem.run_bind, run_sizeOf h, Result.andThen_ok, if_neg this, Sem.run_pure, Addr.add]
 split
 ·rename_i h0; rw [h0]; rfl
 ·rfl

theorem op_fieldAddr (h : Inv X st a w B G) (hE : EOk X st a w B G E) {o : Oper} {s : TypeId} {z : Operand} {f : Nat} (ho : o.op = .fieldAddr s z f) {Γ : Nat → Option CSem} {dst : Nat} {r : ORes} (he : evalOp X.P Γ (look st) E dst (.fieldAddr s z f) o.type = some r) {x : r.α} (hx : r.run = some x) :
  Does X st a w o (r.out x).ev (r.out x).upd := by
 simp only [evalOp] at he
 obtain ⟨ea, hea, he⟩ := bind_some he
 have hv := hE z ea hea
 split at he
 ·rename_i fs hfs
  obtain ⟨fd, hfd, he⟩ := bind_some he
  have hok : ∀ t : Ty, fldOk X.P fd f t = true →
    ∃ u, offS t (.fld f) = some (fd.offset, u) ∧ sizeOk X.P fd.type u = true ∧ Nat.beq u.size 0 = false := by
   intro t ht
   unfold fldOk at ht
   split at ht
   ·rename_i o' u hu
    simp only [Bool.and_eq_true, Bool.not_eq_true'] at ht
    have := Nat.eq_of_beq_eq_true ht.1.1
    subst this
    exact ⟨u, hu, ht.1.2, ht.2⟩
   ·cases ht
  have hrun : ∀ b off u, a.eval z = .pointer (some ⟨b, off, none⟩) → sizeOk X.P fd.type u = true → Nat.beq u.size 0 = false →
    (execOp a.eval o).run X.P w = .ok (.value (.pointer (some ⟨b, off + fd.offset, none⟩))) w := by
   intro b off u hu h1 h2
   simp [execOp, ho, hu, Instr.fieldAt, underlying, hfs, hfd, Instr.sureAddr, run_fieldPlace (w := w) h1 h2]
  cases ea with
  | loc n p =>
   obtain ⟨y, hy, he⟩ := bind_some he
   split at he
   ·rename_i hk
    obtain rfl := Option.some.inj he
    obtain ⟨u, h1, h2, h3⟩ := hok _ hk
    simp only [EVR] at hv
    obtain ⟨d, o', u', b, off, hd, ho', hg, hvv⟩ := hv
    simp only [listAt, hd, Option.bind_some] at hy
    obtain ⟨oo, hoo⟩ := getP_off p _ y hy
    rw [ho'] at hoo
    simp only [Option.some.injEq, Prod.mk.injEq] at hoo
    obtain ⟨rfl, rfl⟩ := hoo
    refine Does.value (hrun b (off + o') u hvv h2 h3) h ?_
    simp only [ORes.just, EVR]
    exact ⟨d, o' + fd.offset, u, b, off, hd, fld_off h1 p ho', hg, by rw [Nat.add_assoc]⟩
   ·cases he
  | oel n p e0 i q =>
   obtain ⟨z', hz', he⟩ := bind_some he
   split at he
   ·rename_i hk
    obtain rfl := Option.some.inj he
    obtain ⟨u, h1, h2, h3⟩ := hok _ hk
    simp only [EVR] at hv
    obtain ⟨d, o', u', b, len, cap, qo, qu, hd, ho', hc, hq, hvv⟩ := hv
    rw [hq] at hz'
    obtain rfl := Option.some.inj hz'
    refine Does.value (hrun b _ u hvv h2 h3) h ?_
    simp only [ORes.just, EVR]
    exact ⟨d, o', u', b, len, cap, qo + fd.offset, u, hd, ho', hc, fld_off h1 q hq, by rw [Nat.add_assoc]⟩
   ·cases he
  | ref d =>
   simp only [] at he
   split at he
   ·rename_i hk
    obtain ⟨y, hy, rfl⟩ := Option.map_eq_some_iff.1 he
    obtain ⟨u, h1, h2, h3⟩ := hok _ hk
    simp only [EVR] at hv
    obtain ⟨hp, b, off, cells, hvv, hB, hr, hR⟩ := hv
    obtain ⟨o', pre, mid, post, F1, F2, F3, ho', hc, hl, hF, hm, _⟩ := getS_rel d.ty d.val _ y x cells [] hy hx hR
    rw [h1] at ho'
    simp only [Option.some.injEq, Prod.mk.injEq] at ho'
    obtain ⟨rfl, rfl⟩ := ho'
    refine Does.value (hrun b off _ hvv h2 h3) h ?_
    simp only [ODyn.res, EVR]
    have hF2 : F2 = [] := by
     have := (List.append_eq_nil_iff.1 (hF.symm)).1
     exact (List.append_eq_nil_iff.1 this).2
    subst hF2
    refine ⟨getS_pure _ _ _ hp hy, b, off + pre.length, mid, by rw [hl], ?_, ?_, hm⟩
    ·rcases hB with hB | hB
     ·exact .inl hB
     ·right
      rw [hc] at hB
      exact (List.append_eq_nil_iff.1 (List.append_eq_nil_iff.1 hB).1).2
    ·intro i c hi
     rw [Nat.add_assoc]
     refine hr (pre.length + i) c ?_
     rw [hc, List.append_assoc, List.getElem?_append_right (by omega), Nat.add_sub_cancel_left, List.getElem?_append_left (List.getElem?_eq_some_iff.1 hi).1]
     exact hi
   ·cases he
  | _ => cases he
 ·cases he

end
end
end Go.Pv

namespace Go.Pv
noncomputable section
universe u v

section
variable {X : Cx} {st : St} {a : Act} {w : World} {B : Nat → Prop} {G : Nat → PG} {E : Operand → Option EV}

theorem op_field (h : Inv X st a w B G) (hE : EOk X st a w B G E) {o : Oper} {s : TypeId} {z : Operand} {f : Nat} (ho : o.op = .field s z f) {Γ : Nat → Option CSem} {dst : Nat} {r : ORes} (he : evalOp X.P Γ (look st) E dst (.field s z f) o.type = some r) {x : r.α} (hx : r.run = some x) :
  Does X st a w o (r.out x).ev (r.out x).upd := by
 simp only [evalOp] at he
 obtain ⟨ea, hea, he⟩ := bind_some he
 have hv := hE z ea hea
 split at he
 ·rename_i fs hfs
  obtain ⟨fd, hfd, he⟩ := bind_some he
  obtain ⟨d, hd, he⟩ := bind_some he
  split at he
  ·rename_i hk
   simp only [Bool.and_eq_true] at hk
   obtain ⟨y, hy, rfl⟩ := Option.map_eq_some_iff.1 he
   obtain ⟨t, ov⟩ := d
   cases ov with
   | none => have := getS_none t _ y hy; rw [show (y.res fun d => ⟨EV.val d, []⟩).run = y.val from rfl, this] at hx; cases hx
   | some dv =>
   obtain ⟨F, hR, ha⟩ := rd_ok h hv hd
   have hk1 := hk.1
   unfold fldOk at hk1
   split at hk1
   ·rename_i o' u hu
    simp only [Bool.and_eq_true, Bool.not_eq_true'] at hk1
    have h0 := Nat.eq_of_beq_eq_true hk1.1.1
    subst h0
    obtain ⟨o2, pre, mid, post, F1, F2, F3, ho', hc, hl, hF, hm, _⟩ := getS_rel t dv _ y x _ F hy hx hR
    have ho2 : offS t (.fld f) = some (o2, y.ty) := ho'
    rw [hu] at ho2
    simp only [Option.some.injEq, Prod.mk.injEq] at ho2
    obtain ⟨rfl, rfl⟩ := ho2
    have hagg : t.isAgg = true := by cases t <;> first | rfl | (simp [offS] at hu)
    rw [hagg] at ha
    obtain ⟨cs, hcs⟩ := cells_agg ha
    have hpy := getS_pure _ _ y hk.2 hy
    obtain rfl := Rel_pure w B _ _ _ F2 hpy hm
    have hc' : cs.toList = pre ++ mid ++ post := by rw [hcs] at hc; simpa [Value.cells] using hc
    obtain ⟨v, k1, k2, k3⟩ := run_part (w := w) hk1.1.2 hc' (Rel_length w B _ _ _ _ hm) (Rel_plain w B _ _ _ _ hm)
    refine Does.value (v := v) ?_ h ?_
    ·rw [hl] at k1
     have k1 : (part fd.type cs fd.offset).run X.P w = .ok v w := by simpa using k1
     simp [execOp, ho, hcs, Instr.field, underlying, hfs, hfd, asAgg, k1]
    ·simp only [ODyn.res, EVR]
     exact ⟨hpy, by rw [k2]; exact hm, k3⟩
   ·cases hk1
  ·cases he
 ·cases he

theorem EVRL_get {tv : Nat → Value} {w : World} {B : Nat → Prop} {G : Nat → PG} {L : Look} : ∀ (l : List EV) (vs : List Value) (i : Nat) (e : EV), EVRL tv w B G L l vs → l[i]? = some e → ∃ v, vs[i]? = some v ∧ EVR tv w B G L e v
 | [], _, _, _, _, h => by simp at h
 | x :: l, vs, 0, e, h, hi => by
  simp only [EVRL] at h
  obtain ⟨v, r, rfl, he, _⟩ := h
  obtain rfl : x = e := by simpa using hi
  exact ⟨v, rfl, he⟩
 | x :: l, vs, i + 1, e, h, hi => by
  simp only [EVRL] at h
  obtain ⟨v, r, rfl, _, hl⟩ := h
  obtain ⟨u, h1, h2⟩ := EVRL_get l r i e hl (by simpa using hi)
  exact ⟨u, by simpa using h1, h2⟩

theorem op_extract (h : Inv X st a w B G) (hE : EOk X st a w B G E) {o : Oper} {z : Operand} {i : Nat} (ho : o.op = .extract z i) {Γ : Nat → Option CSem} {dst : Nat} {r : ORes} (he : evalOp X.P Γ (look st) E dst (.extract z i) o.type = some r) {x : r.α} (_hx : r.run = some x) :
  Does X st a w o (r.out x).ev (r.out x).upd := by
 simp only [evalOp] at he
 obtain ⟨ea, hea, he⟩ := bind_some he
 have hv := hE z ea hea
 cases ea with
 | tup l =>
  obtain ⟨e, hl, rfl⟩ := Option.map_eq_some_iff.1 he
  simp only [EVR] at hv
  obtain ⟨vs, hvs, hv⟩ := hv
  obtain ⟨v, h1, h2⟩ := EVRL_get l _ i e hv hl
  refine Does.value (v := v) ?_ h h2
  have : vs[i]? = some v := by simpa using h1
  simp [execOp, ho, hvs, Instr.extract, this]
 | _ => cases he

theorem EVRL_mapM {tv : Nat → Value} : ∀ (l : List Operand) (es : List EV), EOk X st a w B G E → l.mapM E = some es → EVRL (Go.Pv.tv a) w B G (look st) es (l.map a.eval)
 | [], es, _, h => by
  simp only [List.mapM_nil, Option.pure_def, Option.some.injEq] at h
  subst h; simp [EVRL]
 | z :: l, es, hE, h => by
  rw [List.mapM_cons] at h
  obtain ⟨e, he, h⟩ := bind_some h
  obtain ⟨es', hes, h⟩ := bind_some h
  obtain rfl := Option.some.inj h
  simp only [EVRL]
  exact ⟨a.eval z, l.map a.eval, rfl, hE z e he, EVRL_mapM (tv := tv) l es' hE hes⟩

theorem op_makeFunc (h : Inv X st a w B G) (hE : EOk X st a w B G E) {o : Oper} {f : Nat} {first caps : Array Operand} (ho : o.op = .makeFunc (.func f) first caps) {Γ : Nat → Option CSem} {dst : Nat} {r : ORes} (he : evalOp X.P Γ (look st) E dst (.makeFunc (.func f) first caps) o.type = some r) {x : r.α} (_hx : r.run = some x) :
  Does X st a w o (r.out x).ev (r.out x).upd := by
 simp only [evalOp] at he
 split at he
 ·rename_i hf
  obtain ⟨es, hes, rfl⟩ := Option.map_eq_some_iff.1 he
  have hf0 : first = #[] := by simpa using hf
  refine Does.value (v := .func (.func f) #[] (caps.map a.eval)) ?_ h ?_
  ·simp [execOp, ho, Instr.makeFunc, hf0]
  ·simp only [ORes.just, EVR]
   exact ⟨_, rfl, by have := EVRL_mapM (tv := Go.Pv.tv a) caps.toList es hE hes; simp only [Array.toList_map]; exact this⟩
 ·cases he

theorem ckI_some {i : Int} {n : Nat} {z : Unit} (h : ckI i n = some z) : 0 ≤ i ∧ i < n := by
 unfold ckI at h
 split at h
 ·assumption
 ·cases h

end
end
end Go.Pv

namespace Go.Pv
noncomputable section
universe u v

section
variable {X : Cx} {st : St} {a : Act} {w : World} {B : Nat → Prop} {G : Nat → PG} {E : Operand → Option EV}

theorem bytes_get {s : ByteArray} {i : Nat} {b : Int} (h : (bytesOf s)[i]? = some b) : ∃ c : UInt8, s[i]? = some c ∧ (c.toNat : Int) = b := by
 unfold bytesOf at h
 rw [List.getElem?_map] at h
 obtain ⟨c, hc, rfl⟩ := Option.map_eq_some_iff.1 h
 refine ⟨c, ?_, rfl⟩
 have hc' : s.data[i]? = some c := by simpa using hc
 obtain ⟨hi, hg⟩ := Array.getElem?_eq_some_iff.1 hc'
 have hi' : i < s.size := hi
 rw [getElem?_pos s i hi']
 exact congrArg some hg

theorem op_index (h : Inv X st a w B G) (hE : EOk X st a w B G E) {o : Oper} {t : TypeId} {z y : Operand} (ho : o.op = .index t z y) {Γ : Nat → Option CSem} {dst : Nat} {r : ORes} (he : evalOp X.P Γ (look st) E dst (.index t z y) o.type = some r) {x : r.α} (hx : r.run = some x) :
  Does X st a w o (r.out x).ev (r.out x).upd := by
 simp only [evalOp] at he
 obtain ⟨ez, hez, he⟩ := bind_some he
 obtain ⟨ez', hfz, he⟩ := bind_some he
 obtain ⟨ey, hey, he⟩ := bind_some he
 obtain ⟨⟨k, i⟩, hi, he⟩ := bind_some he
 obtain ⟨q, hq, he⟩ := bind_some he
 have hvz := fix_ok (hE z ez hez) hfz
 have hvy := hE y ey hey
 split at he
 ·rename_i m e m' e' xs hu
  split at he
  ·rename_i hk
   simp only [Bool.and_eq_true] at hk
   obtain rfl := Nat.eq_of_beq_eq_true hk.1.1
   obtain rfl := Option.some.inj he
   obtain ⟨i', hi', hx⟩ := bind_some hx
   have hi2 : i = some i' := hi'
   subst hi2
   obtain ⟨hiv, _⟩ := int?_ok h hvy hi
   obtain ⟨h0, hxi⟩ := rdI_some hx
   obtain ⟨F, hR, ha⟩ := rd_ok h hvz hq
   obtain ⟨cs, hcs⟩ := cells_agg ha
   obtain ⟨hn, hR⟩ := hR
   obtain ⟨c1, c2, c3, F1, F2, F3, e1, e2, e3, e4, _⟩ := RelL_split (fun x cs F h => Rel_length w B e' x cs F h) _ _ _ _ _ hR hxi
   have hn : List.length (α := T e') xs = m := hn
   have hlt : i' < m := by
    have h1 := (List.getElem?_eq_some_iff.1 hxi).1
    have : i'.toNat < m := by rw [← hn]; exact h1
    omega
   have hc' : cs.toList = c1 ++ c2 ++ c3 := by rw [hcs] at e1; simpa [Value.cells] using e1
   obtain rfl := Rel_pure w B _ _ _ F2 hk.2 e4
   obtain ⟨v, k1, k2, k3⟩ := run_part (w := w) hk.1.2 hc' (Rel_length w B _ _ _ _ e4) (Rel_plain w B _ _ _ _ e4)
   refine Does.value (v := v) ?_ h ?_
   ·rw [e3] at k1
    have k1 : (part e cs (i'.toNat * e'.size)).run X.P w = .ok v w := by simpa using k1
    simp [execOp, ho, hcs, Instr.index, underlying, hu, hiv, asIntOf, h0, hlt, run_sizeOf (w := w) hk.1.2, k1]
   ·simp only [ODyn.res, EVR]
    exact ⟨hk.2, by rw [k2]; exact e4, k3⟩
  ·cases he
 ·rename_i s hu
  obtain rfl := Option.some.inj he
  obtain ⟨i', hi', hx⟩ := bind_some hx
  have hi2 : i = some i' := hi'
  subst hi2
  obtain ⟨hiv, _⟩ := int?_ok h hvy hi
  obtain ⟨h0, hxi⟩ := rdI_some hx
  obtain ⟨F, hR, ha⟩ := rd_ok h hvz hq
  obtain ⟨b, hb, hbs, hbl, _⟩ := hR
  have hb := cells_one hb ha
  subst hbs
  obtain ⟨c, hc, rfl⟩ := bytes_get hxi
  refine Does.value (v := .int .u8 c.toNat) ?_ h ?_
  ·simp [execOp, ho, hb, Instr.index, underlying, hu, hiv, asIntOf, h0, hc]
  ·simp only [ODyn.res, EVR]
   exact ⟨rfl, ⟨rfl, byte_inR c, rfl⟩, rfl⟩
 ·cases he

theorem exec_builtin {ρ : Operand → Value} {o : Oper} {c : Call} {b : Builtin} (ho : o.op = .call c) (hc : c.callee = .builtin b) (P : Program) :
  ∃ cs, (execOp ρ o).run P w = (builtin b c.argTypes o.type cs (c.args.map ρ)).run P w := by
 refine ⟨c.args.map fun | .const _ => true | _ => false, ?_⟩
 simp only [execOp, ho, resolve, hc, Sem.run_bind, Sem.run_pure, Result.andThen_ok, invoke]
 rfl

theorem mapA {α β : Type} {f : α → β} {as : Array α} {l : List α} (h : as.toList = l) : as.map f = (l.map f).toArray := by
 subst h; apply Array.ext'; simp

theorem arr0 {α : Type} {as : Array α} {t : α} {l : List α} (h : as.toList = t :: l) : as[0]? = some t := by
 rw [← Array.getElem?_toList, h]; rfl
theorem op_len (h : Inv X st a w B G) (hE : EOk X st a w B G E) {o : Oper} {c : Call} (ho : o.op = .call c) (hc : c.callee = .builtin .len) {Γ : Nat → Option CSem} {dst : Nat} {r : ORes} (he : evalOp X.P Γ (look st) E dst (.call c) o.type = some r) {x : r.α} (hx : r.run = some x) :
  Does X st a w o (r.out x).ev (r.out x).upd := by
 simp only [evalOp, hc] at he
 split at he
 ·rename_i z t ts hz ht
  obtain ⟨ez, hez, he⟩ := bind_some he
  obtain ⟨ez', hfz, he⟩ := bind_some he
  obtain ⟨d, hd, he⟩ := bind_some he
  split at he
  ·rename_i hfit
   obtain ⟨g, hg, rfl⟩ := Option.map_eq_some_iff.1 he
   have hv := fix_ok (hE z ez hez) hfz
   obtain ⟨ty, ov⟩ := d
   cases ov with
   | none => cases hx
   | some xv =>
   have hx2 : g xv = x := Option.some.inj hx
   obtain ⟨F, hR, ha⟩ := rd_ok h hv hd
   have hlen : ∀ n : Nat, n ≤ maxLen → x = (n : Int) → (Builtin.len_ c.argTypes o.type (c.args.map a.eval)).run X.P w = .ok (.int .i64 n) w → Does X st a w o (.val ⟨.int .i64, x⟩) [] := by
    intro n hn hxn hr
    refine Does.value (v := .int .i64 n) ?_ h ?_
    ·obtain ⟨cs, hcs⟩ := exec_builtin (w := w) (ρ := a.eval) ho hc X.P
     rw [hcs]; simp [builtin, hr]
    ·simp only [EVR]
     subst hxn
     exact ⟨rfl, ⟨rfl, len_inR hn, rfl⟩, rfl⟩
   have hrun : ∀ n : Nat, (∀ u, X.P.underlying t = some u → lenFits (some u) ty = true → (match u, a.eval z with | .string, .string s => s.size = n | .slice _, .slice _ m _ => m = n | _, _ => False)) →
     (Builtin.len_ c.argTypes o.type (c.args.map a.eval)).run X.P w = .ok (.int .i64 n) w := by
    intro n hn
    cases hu : X.P.underlying t with
    | none => rw [hu] at hfit; cases ty <;> cases hfit
    | some u =>
     rw [hu] at hfit
     have hn := hn u hu hfit
     unfold Builtin.len_
     rw [arr0 ht]
     simp only [mapA hz, List.map_cons, List.map_nil, List.getElem?_toArray, List.getElem?_cons_zero, Sem.run_bind, underlying, run_program, Result.andThen_ok, hu, Sem.run_pure]
     split at hn
     ·rename_i s hs; simp [hs, hn, goInt]
     ·rename_i e b m cp hs; simp [hs, hn, goInt]
     ·cases hn
   simp only [ODyn.res]
   cases ty with
   | str =>
    obtain rfl := Option.some.inj hg
    obtain ⟨b, hb, hbs, hbl, _⟩ := hR
    have hb := cells_one hb ha
    refine hlen b.size hbl (by rw [← hx2, ← hbs]; exact congrArg Int.ofNat (bytesOf_length b)) (hrun _ fun u hu hf => ?_)
    cases u <;> first | (cases hf; done) | simp [hb]
   | slice e =>
    obtain rfl := Option.some.inj hg
    obtain ⟨_, v, hv1, sa, cap, cells, hsv, hle, hcap, _⟩ := hR
    have hv1 := cells_one hv1 ha
    subst hsv
    refine hlen (List.length (α := T e) xv) (Nat.le_trans hle hcap) hx2.symm (hrun _ fun u hu hf => ?_)
    cases u <;> first | (cases hf; done) | simp [hv1]
   | own e =>
    obtain rfl := Option.some.inj hg
    obtain ⟨v, hv1, hown⟩ := hR
    have hv1 := cells_one hv1 ha
    rcases hown with ⟨hb, hsv, _⟩ | ⟨b, cap, c, F', hsv, hle, hcap, _⟩
    ·subst hsv
     have hb : xv = [] := hb
     subst hb
     refine hlen 0 (by omega) hx2.symm (hrun _ fun u hu hf => ?_)
     cases u <;> first | (cases hf; done) | simp [hv1]
    ·subst hsv
     refine hlen (List.length (α := T e) xv) (Nat.le_trans hle hcap) hx2.symm (hrun _ fun u hu hf => ?_)
     cases u <;> first | (cases hf; done) | simp [hv1]
   | app e =>
    obtain rfl := Option.some.inj hg
    obtain ⟨v, hv1, hown⟩ := hR
    have hv1 := cells_one hv1 ha
    rcases hown with (⟨hb, hsv, _⟩ | ⟨b, cap, c, F', hsv, hle, hcap, _⟩) | ⟨_, sa, cap, cells, hsv, hle, hcap, _⟩
    ·subst hsv
     have hb : xv = [] := hb
     subst hb
     refine hlen 0 (by omega) hx2.symm (hrun _ fun u hu hf => ?_)
     cases u <;> first | (cases hf; done) | simp [hv1]
    ·subst hsv
     refine hlen (List.length (α := T e) xv) (Nat.le_trans hle hcap) hx2.symm (hrun _ fun u hu hf => ?_)
     cases u <;> first | (cases hf; done) | simp [hv1]
    ·subst hsv
     refine hlen (List.length (α := T e) xv) (Nat.le_trans hle hcap) hx2.symm (hrun _ fun u hu hf => ?_)
     cases u <;> first | (cases hf; done) | simp [hv1]
   | nils e =>
    obtain rfl := Option.some.inj hg
    obtain ⟨hv1, _⟩ := hR
    have hv1 := cells_one hv1 ha
    refine hlen 0 (by omega) hx2.symm (hrun _ fun u hu hf => ?_)
    cases u <;> first | (cases hf; done) | simp [hv1]
   | _ => cases hg
  ·cases he
 ·cases he

theorem op_minmax (h : Inv X st a w B G) (hE : EOk X st a w B G E) {o : Oper} {c : Call} (ho : o.op = .call c) (hc : c.callee = .builtin .min ∨ c.callee = .builtin .max) {Γ : Nat → Option CSem} {dst : Nat} {r : ORes} (he : evalOp X.P Γ (look st) E dst (.call c) o.type = some r) {x : r.α} (hx : r.run = some x) :
  Does X st a w o (r.out x).ev (r.out x).upd := by
 rcases hc with hc | hc
 all_goals
  simp only [evalOp, hc] at he
  split at he
  ·rename_i z y hz
   obtain ⟨ez, hez, he⟩ := bind_some he
   obtain ⟨ey, hey, he⟩ := bind_some he
   obtain ⟨⟨k, i⟩, hi, he⟩ := bind_some he
   obtain ⟨⟨k', j⟩, hj, he⟩ := bind_some he
   split at he
   ·rename_i hk
    have hk : k = k' := hk
    subst hk
    obtain rfl := Option.some.inj he
    obtain ⟨i', hi', hx⟩ := bind_some hx
    obtain ⟨j', hj', hx⟩ := Option.map_eq_some_iff.1 hx
    have hi2 : i = some i' := hi'
    have hj2 : j = some j' := hj'
    subst hi2; subst hj2
    obtain ⟨hiv, hir⟩ := int?_ok h (hE z ez hez) hi
    obtain ⟨hjv, hjr⟩ := int?_ok h (hE y ey hey) hj
    refine Does.value (v := .int k x) ?_ h ?_
    ·obtain ⟨cs, hcs⟩ := exec_builtin (w := w) (ρ := a.eval) ho hc X.P
     rw [hcs]
     have hx2 : _ = x := hx
     rw [← hx2]
     simp only [builtin, Builtin.min_, Builtin.max_, mapA hz, List.map_cons, List.map_nil, List.foldlM_cons, List.foldlM_nil, hiv, hjv, Builtin.min2, Builtin.max2, minI, maxI]
     by_cases hlt : i' ≤ j' <;> by_cases hlt2 : j' ≤ i' <;> simp [hlt, hlt2, Int.not_lt.2, Int.lt_of_not_ge] <;> omega
    ·simp only [ODyn.res, EVR]
     have hx2 : _ = x := hx
     refine ⟨rfl, ⟨rfl, ?_, rfl⟩, rfl⟩
     rw [← hx2]
     simp only [minI, maxI]
     split <;> assumption
   ·cases he
  ·cases he

theorem run_convertInt {P : Program} {s t : TypeId} {k k' : IntKind} {n : Int} {d : TypeDesc} (hs : P.underlying s = some d) (ht : P.underlying t = some (.int k)) :
  (convert s t (.int k' n)).run P w = .ok (.int k (k.wrap n)) w := by
 unfold convert
 simp only [Sem.run_bind, underlying, run_program, Result.andThen_ok, hs, ht, Sem.run_pure]
 cases d <;> simp [Conv.intToInt]

theorem op_convert_int (h : Inv X st a w B G) {o : Oper} {s t : TypeId} {z : Operand} (ho : o.op = .convert s t z) {k k' : IntKind} {d : TypeDesc} (hs : X.P.underlying s = some d) (ht : X.P.underlying t = some (.int k)) {e : EV}
  (hv : EVR (tv a) w B G (look st) e (a.eval z)) {n : Int} (hr : e.rd (look st) = some ⟨.int k', some n⟩) : Does X st a w o (.val ⟨.int k, k.wrap n⟩) [] := by
 obtain ⟨F, hR, ha⟩ := rd_ok h hv hr
 have hv := cells_one hR.1 ha
 refine Does.value (v := .int k (k.wrap n)) ?_ h ?_
 ·have hc := run_convertInt (w := w) (k' := k') (n := n) hs ht
  simp [execOp, ho, hv, hc]
 ·simp only [EVR]
  exact ⟨rfl, ⟨rfl, wrap_inR k n, rfl⟩, rfl⟩

theorem op_convert_str (h : Inv X st a w B G) {o : Oper} {s t : TypeId} {z : Operand} (ho : o.op = .convert s t z) (hs : X.P.underlying s = some .string) (ht : X.P.underlying t = some .string) {e : EV}
  (hv : EVR (tv a) w B G (look st) e (a.eval z)) {n : List Int} (hr : e.rd (look st) = some ⟨.str, some n⟩) : Does X st a w o e [] := by
 obtain ⟨F, ⟨b, hb, _⟩, ha⟩ := rd_ok h hv hr
 have hv2 := cells_one hb ha
 refine Does.value (v := a.eval z) ?_ h hv
 simp [execOp, ho, hv2, convert, underlying, hs, ht]

theorem encode_size (n : Int) : (Utf8.encode n).size ≤ 4 := by
 unfold Utf8.encode
 dsimp only
 generalize (if Utf8.valid n = true then n.toNat else Utf8.runeError) = c
 split
 ·exact Nat.le_of_ble_eq_true rfl
 ·split
  ·exact Nat.le_of_ble_eq_true rfl
  ·split <;> exact Nat.le_of_ble_eq_true rfl

theorem op_convert_rune (h : Inv X st a w B G) {o : Oper} {s t : TypeId} {z : Operand} (ho : o.op = .convert s t z) {k k' : IntKind} (hs : X.P.underlying s = some (.int k)) (ht : X.P.underlying t = some .string) {e : EV}
  (hv : EVR (tv a) w B G (look st) e (a.eval z)) {n : Int} (hr : e.rd (look st) = some ⟨.int k', some n⟩) : Does X st a w o (.val ⟨.str, runeI n⟩) [] := by
 obtain ⟨F, hR, ha⟩ := rd_ok h hv hr
 have hv := cells_one hR.1 ha
 refine Does.value (v := .string (Utf8.encode n)) ?_ h ?_
 ·simp [execOp, ho, hv, convert, underlying, hs, ht, Conv.intToString]
 ·simp only [EVR]
  exact ⟨rfl, ⟨Utf8.encode n, rfl, rfl, Nat.le_trans (encode_size n) (by decide), rfl⟩, rfl⟩

theorem noAlt_ok {u : Nat} : ∀ (t : Ty) (x : T t) (v : Value) (F : List Nat), noAlt u t = true → Rel w B t x [v] F → v = .nilIface ∨ ∃ t' v', v = .iface t' v' ∧ t' ≠ u
 | .nili, x, v, F, _, h => .inl (List.cons.inj h.1).1
 | .alt u' t r, x, v, F, hn, h => by
  simp only [noAlt, Bool.and_eq_true, Bool.not_eq_true'] at hn
  obtain ⟨_, h⟩ := h
  cases x with
  | inl y =>
   obtain ⟨v', hv, _⟩ := h
   refine .inr ⟨u', v', (List.cons.inj hv).1, fun e => ?_⟩
   subst e
   simp at hn
  | inr y => exact noAlt_ok r y v [] hn.2 h.1
 | .int _, _, _, _, hn, _ => by cases hn
 | .bool, _, _, _, hn, _ => by cases hn
 | .str, _, _, _, hn, _ => by cases hn
 | .unit, _, _, _, hn, _ => by cases hn
 | .pair _ _, _, _, _, hn, _ => by cases hn
 | .agg _, _, _, _, hn, _ => by cases hn
 | .arr _ _, _, _, _, hn, _ => by cases hn
 | .slice _, _, _, _, hn, _ => by cases hn
 | .app _, _, _, _, hn, _ => by cases hn
 | .own _, _, _, _, hn, _ => by cases hn
 | .junk, _, _, _, hn, _ => by cases hn
 | .ptr _, _, _, _, hn, _ => by cases hn
 | .box _, _, _, _, hn, _ => by cases hn
 | .nils _, _, _, _, hn, _ => by cases hn
 | .nilp, _, _, _, hn, _ => by cases hn

theorem getAlt_ok {u : Nat} : ∀ (t : Ty) (s : Ty) (g : T t → Option (T s)) (x : T t) (v : Value) (F : List Nat), getAlt u t = some ⟨s, g⟩ → Rel w B t x [v] F →
  match g x with
  | some y => ∃ v', v = .iface u v' ∧ Rel w B s y v'.cells.toList [] ∧ Value.agg? v' = s.isAgg
  | none => v = .nilIface ∨ ∃ t' v', v = .iface t' v' ∧ t' ≠ u
 | .alt u' t r, s, g, x, v, F, hg, h => by
  simp only [getAlt] at hg
  split at hg
  ·rename_i hu
   obtain ⟨rfl, hna⟩ := hu
   simp only [Option.some.injEq, Sigma.mk.injEq] at hg
   obtain ⟨rfl, hg⟩ := hg
   obtain rfl := eq_of_heq hg
   obtain ⟨_, h⟩ := h
   cases x with
   | inl y =>
    obtain ⟨v', hv, h1, h2⟩ := h
    exact ⟨v', (List.cons.inj hv).1, h1, h2⟩
   | inr y => exact noAlt_ok r y v [] hna h.1
  ·rename_i hu
   split at hg
   ·cases hg
   rename_i hne
   obtain ⟨⟨s', g'⟩, hg', hgg⟩ := Option.map_eq_some_iff.1 hg
   simp only [Sigma.mk.injEq] at hgg
   obtain ⟨rfl, hgg⟩ := hgg
   obtain rfl := eq_of_heq hgg
   obtain ⟨_, h⟩ := h
   cases x with
   | inl y =>
    obtain ⟨v', hv, h1, h2⟩ := h
    refine .inr ⟨u', v', (List.cons.inj hv).1, fun e => ?_⟩
    exact hne e.symm
   | inr y => exact getAlt_ok r s' g' y v [] hg' h.1
 | .nili, _, _, _, _, _, hn, _ => by cases hn
 | .int _, _, _, _, _, _, hn, _ => by cases hn
 | .bool, _, _, _, _, _, hn, _ => by cases hn
 | .str, _, _, _, _, _, hn, _ => by cases hn
 | .unit, _, _, _, _, _, hn, _ => by cases hn
 | .pair _ _, _, _, _, _, _, hn, _ => by cases hn
 | .agg _, _, _, _, _, _, hn, _ => by cases hn
 | .arr _ _, _, _, _, _, _, hn, _ => by cases hn
 | .slice _, _, _, _, _, _, hn, _ => by cases hn
 | .app _, _, _, _, _, _, hn, _ => by cases hn
 | .own _, _, _, _, _, _, hn, _ => by cases hn
 | .junk, _, _, _, _, _, hn, _ => by cases hn
 | .ptr _, _, _, _, _, _, hn, _ => by cases hn
 | .box _, _, _, _, _, _, hn, _ => by cases hn
 | .nils _, _, _, _, _, _, hn, _ => by cases hn
 | .nilp, _, _, _, _, _, hn, _ => by cases hn

theorem zeroAs_ok {P : Program} {t : TypeId} {s : Ty} (h : zeroAs P t s = true) : ∃ z, (zeroValue t).run P w = .ok z w ∧ Rel w B s (dflt s) z.cells.toList [] ∧ Value.agg? z = s.isAgg := by
 unfold zeroAs at h
 split at h
 ·rename_i z hz
  simp only [Bool.and_eq_true] at h
  cases hi : P.info? t with
  | none => rw [hi] at hz; cases hz
  | some i =>
   rw [hi] at hz
   have hz : i.zero = some z := hz
   refine ⟨z, by simp [zeroValue, typeInfo, hi, hz], ?_, ?_⟩
   ·have h2 := h.2
    split at h2
    ·rename_i hz2; exact isZ_all hz2
    ·cases h2
   ·have h1 := h.1
    rw [beq_iff_eq] at h1
    rw [← h1]
    cases z <;> rfl
 ·cases h

theorem tup2 {tv : Nat → Value} {G : Nat → PG} {L : Look} {s : Ty} {x : T s} {v : Value} {b : Bool} (hp : s.pure = true) (hv : VR w B s x v []) :
  EVR tv w B G L (.tup [.val ⟨s, x⟩, .val ⟨.bool, b⟩]) (.tuple #[v, .bool b]) := by
 simp only [EVR, EVRL]
 refine ⟨_, rfl, v, [.bool b], rfl, ⟨hp, hv⟩, .bool b, [], rfl, ⟨rfl, ⟨rfl, rfl⟩, rfl⟩, rfl⟩

theorem pay_nil {s a : Ty} {v : Value} (e : s = .ptr a) (hv : VR w B s (Pv.dflt s) v []) : v = .pointer none := by
 subst e
 obtain ⟨⟨_, h1⟩, h2⟩ := hv
 exact cells_one h1 h2

theorem pay_val {tv : Nat → Value} {G : Nat → PG} {L : Look} {s : Ty} {x : T s} {v : Value} {t : Nat} (hp : s.pure = true) (hv : VR w B s x v []) (hpay : ∀ a, s = .ptr a → v = .pointer none ∨ ∃ u, tv t = .iface u v) :
  EVR tv w B G L (payEv t (.val ⟨s, x⟩)) v := by
 cases s with
 | ptr a =>
  simp only [payEv, EVR]
  exact ⟨⟨hp, hv⟩, fun h => (by cases h), fun _ => hpay a rfl⟩
 | _ =>
  simp only [payEv, EVR]
  exact ⟨hp, hv⟩

theorem pay_tup {tv : Nat → Value} {G : Nat → PG} {L : Look} {s : Ty} {x : T s} {v : Value} {b : Bool} {t : Nat} (hp : s.pure = true) (hv : VR w B s x v []) (hpay : ∀ a, s = .ptr a → v = .pointer none ∨ ∃ u, tv t = .iface u v) :
  EVR tv w B G L (payEv t (.tup [.val ⟨s, x⟩, .val ⟨.bool, b⟩])) (.tuple #[v, .bool b]) := by
 cases s with
 | ptr a =>
  simp only [payEv, EVR, EVRL]
  exact ⟨_, rfl, v, [.bool b], rfl, ⟨⟨hp, hv⟩, fun h => (by cases h), fun _ => hpay a rfl⟩, .bool b, [], rfl, ⟨rfl, ⟨rfl, rfl⟩, rfl⟩, rfl⟩
 | _ =>
  simp only [payEv]
  exact tup2 hp hv

theorem assert_ok (h : Inv X st a w B G) {o : Oper} {z : Operand} {xt at_ : TypeId} {commaOk : Bool} (ho : o.op = .typeAssert z xt at_ commaOk) {ez' : EV} {d : ODyn} (hv : EVR (tv a) w B G (look st) ez' (a.eval z)) (hd : ez'.rd (look st) = some d) {r : ORes}
  (he : assertOp X.P at_ commaOk d = some r) {x : r.α} (hx : r.run = some x) : ∃ v, (execOp a.eval o).run X.P w = .ok (.value v) w ∧ (r.out x).upd = [] ∧ EVR (tv a) w B G (look st) (r.out x).ev v ∧ ∀ t, tv a t = a.eval z → EVR (tv a) w B G (look st) (payEv t (r.out x).ev) v := by
 unfold assertOp at he
 split at he
 ·cases he
 rename_i hni
 obtain ⟨u, hu, hi⟩ : ∃ u, X.P.underlying at_ = some u ∧ ∀ m, u ≠ .interface m := by
  cases hu : X.P.underlying at_ with
  | none => rw [hu] at hni; exact absurd rfl hni
  | some u => exact ⟨u, rfl, fun m hm => by rw [hu, hm] at hni; exact hni rfl⟩
 have hholds : ∀ v', a.eval z = .iface at_ v' → (execOp a.eval o).run X.P w = .ok (.value (if commaOk then .tuple #[v', .bool true] else v')) w := by
  intro v' hz
  simp only [execOp, ho, hz, Instr.typeAssert, underlying, Sem.run_bind, run_program, Result.andThen_ok, hu, Sem.run_pure]
  cases u <;> first | exact absurd rfl (hi _) | simp
 have hfails : ∀ zv, (zeroValue at_).run X.P w = .ok zv w → (a.eval z = .nilIface ∨ ∃ t' v', a.eval z = .iface t' v' ∧ t' ≠ at_) → commaOk = true → (execOp a.eval o).run X.P w = .ok (.value (.tuple #[zv, .bool false])) w := by
  intro zv hzv hz hok
  subst hok
  rcases hz with hz | ⟨t', v', hz, hne⟩
  ·simp only [execOp, ho, hz, Instr.typeAssert, underlying, Sem.run_bind, run_program, Result.andThen_ok, hu, Sem.run_pure]
   cases u <;> first | exact absurd rfl (hi _) | simp [hzv]
  ·simp only [execOp, ho, hz, Instr.typeAssert, underlying, Sem.run_bind, run_program, Result.andThen_ok, hu, Sem.run_pure]
   cases u <;> first | exact absurd rfl (hi _) | simp [hzv, hne]
 obtain ⟨ty, ov⟩ := d
 split at he
 ·rename_i s g hg
  split at he
  ·rename_i hp
   have hsh : ty.isAgg = false ∧ ty.size = 1 := by cases ty <;> first | exact ⟨rfl, rfl⟩ | (cases hg)
   cases hok : commaOk with
   | true =>
    rw [hok] at he
    simp only [if_true] at he
    split at he
    ·rename_i hz0
     obtain rfl := Option.some.inj he
     obtain ⟨zv, hzv, hz1, hz2⟩ := zeroAs_ok (w := w) (B := B) hz0
     obtain ⟨xv, hxv, hx⟩ := Option.map_eq_some_iff.1 hx
     have hxv : ov = some xv := hxv
     subst hxv
     obtain ⟨F, hR⟩ := rd_ok h hv hd
     have hR := (hR.one hsh.1 hsh.2).2
     have hg2 := getAlt_ok ty s g xv _ F hg hR
     have hx : g xv = x := hx
     rw [hx] at hg2
     cases x with
     | some y =>
      obtain ⟨v', h1, h2, h3⟩ := hg2
      refine ⟨.tuple #[v', .bool true], by rw [hholds v' h1, hok]; rfl, rfl, tup2 hp ⟨h2, h3⟩, fun t ht => pay_tup hp ⟨h2, h3⟩ fun _ _ => .inr ⟨at_, ht.trans h1⟩⟩
     | none => exact ⟨_, hfails zv hzv hg2 hok, rfl, tup2 hp ⟨hz1, hz2⟩, fun t _ => pay_tup hp ⟨hz1, hz2⟩ fun _ e => .inl (pay_nil e ⟨hz1, hz2⟩)⟩
    ·cases he
   | false =>
    rw [hok] at he
    simp only [Bool.false_eq_true, if_false] at he
    obtain rfl := Option.some.inj he
    obtain ⟨xv, hxv, hx⟩ := bind_some hx
    have hxv : ov = some xv := hxv
    subst hxv
    obtain ⟨F, hR⟩ := rd_ok h hv hd
    have hR := (hR.one hsh.1 hsh.2).2
    have hg2 := getAlt_ok ty s g xv _ F hg hR
    have hx : g xv = some x := hx
    rw [hx] at hg2
    obtain ⟨v', h1, h2, h3⟩ := hg2
    refine ⟨v', by rw [hholds v' h1, hok]; rfl, rfl, by simp only [EVR]; exact ⟨hp, h2, h3⟩, fun t ht => pay_val hp ⟨h2, h3⟩ fun _ _ => .inr ⟨at_, ht.trans h1⟩⟩
  ·cases he
 ·split at he
  ·rename_i hk
   simp only [Bool.and_eq_true] at hk
   obtain ⟨s, hs, he⟩ := bind_some he
   split at he
   ·rename_i hz0
    obtain rfl := Option.some.inj he
    obtain ⟨zv, hzv, hz1, hz2⟩ := zeroAs_ok (w := w) (B := B) hz0
    cases ov with
    | none => cases hx
    | some xv =>
    obtain ⟨F, hR⟩ := rd_ok h hv hd
    have hsh : ty.isAgg = false ∧ ty.size = 1 := by
     have h2 := hk.2
     cases ty <;> first | exact ⟨rfl, rfl⟩ | (cases h2)
    have hR := (hR.one hsh.1 hsh.2).2
    exact ⟨_, hfails zv hzv (noAlt_ok ty xv _ F hk.2 hR) hk.1, rfl, tup2 (tyOf_pure X.P 12 at_ s hs) ⟨hz1, hz2⟩, fun t _ => pay_tup (tyOf_pure X.P 12 at_ s hs) ⟨hz1, hz2⟩ fun _ e => .inl (pay_nil e ⟨hz1, hz2⟩)⟩
   ·cases he
  ·cases he

theorem assertPay_ok (h : Inv X st a w B G) {at_ : TypeId} {ez' : EV} {v0 : Value} {d : ODyn} (hv : EVR (tv a) w B G (look st) ez' v0) (hd : ez'.rd (look st) = some d) {r : ORes}
  (he : assertOp X.P at_ false d = some r) {x : r.α} (hx : r.run = some x) : ∃ v, v0 = .iface at_ v ∧ (r.out x).upd = [] ∧ EVR (tv a) w B G (look st) (r.out x).ev v ∧ ∀ t, tv a t = v0 → EVR (tv a) w B G (look st) (payEv t (r.out x).ev) v := by
 unfold assertOp at he
 split at he
 ·cases he
 obtain ⟨ty, ov⟩ := d
 split at he
 ·rename_i s g hg
  split at he
  ·rename_i hp
   have hsh : ty.isAgg = false ∧ ty.size = 1 := by cases ty <;> first | exact ⟨rfl, rfl⟩ | (cases hg)
   simp only [Bool.false_eq_true, if_false] at he
   obtain rfl := Option.some.inj he
   obtain ⟨xv, hxv, hx⟩ := bind_some hx
   have hxv : ov = some xv := hxv
   subst hxv
   obtain ⟨F, hR⟩ := rd_ok h hv hd
   have hR := (hR.one hsh.1 hsh.2).2
   have hg2 := getAlt_ok ty s g xv _ F hg hR
   have hx : g xv = some x := hx
   rw [hx] at hg2
   obtain ⟨v', h1, h2, h3⟩ := hg2
   exact ⟨v', h1, rfl, by simp only [EVR]; exact ⟨hp, h2, h3⟩, fun t ht => pay_val hp ⟨h2, h3⟩ fun _ _ => .inr ⟨at_, ht.trans h1⟩⟩
  ·cases he
 ·split at he
  ·rename_i hk
   simp at hk
  ·cases he

theorem op_typeAssert (h : Inv X st a w B G) (hE : EOk X st a w B G E) {o : Oper} {z : Operand} {xt at_ : TypeId} {commaOk : Bool} (ho : o.op = .typeAssert z xt at_ commaOk) {Γ : Nat → Option CSem} {dst : Nat} {r : ORes} (he : evalOp X.P Γ (look st) E dst (.typeAssert z xt at_ commaOk) o.type = some r) {x : r.α} (hx : r.run = some x) :
  Does X st a w o (r.out x).ev (r.out x).upd := by
 simp only [evalOp] at he
 obtain ⟨ez, hez, he⟩ := bind_some he
 obtain ⟨ez', hfz, he⟩ := bind_some he
 obtain ⟨d, hd, he⟩ := bind_some he
 have hv := fix_ok (hE z ez hez) hfz
 obtain ⟨r0, hr0, rfl⟩ := Option.map_eq_some_iff.1 he
 have plain : ∀ (x : r0.α), r0.run = some x → Does X st a w o (r0.out x).ev (r0.out x).upd := fun x hx => by
  obtain ⟨v, h1, h2, h3, _⟩ := assert_ok h ho hv hd hr0 hx
  rw [h2]
  exact Does.value h1 h h3
 cases ez' with
 | alias t p d' =>
  cases p with
  | true => exact plain x hx
  | false =>
   obtain ⟨v, h1, h2, _, h4⟩ := assert_ok h ho hv hd hr0 (x := x) hx
   have hu : ((payRes (.alias t false d') r0).out x).upd = [] := h2
   rw [hu]
   simp only [EVR] at hv
   exact Does.value h1 h (h4 t (hv.2.1 trivial))
 | _ => exact plain x hx

end
end
end Go.Pv

namespace Go.Pv
noncomputable section
universe u v

theorem RelL_lt {α : Type} {R : α → List Value → List Nat → Prop} {w : World} (h : ∀ x cs F, R x cs F → ∀ b ∈ F, b < w.heap.size) : ∀ xs cs F, RelL R xs cs F → ∀ b ∈ F, b < w.heap.size
 | [], _, _, ⟨_, hF⟩ => by subst hF; simp
 | x :: xs, _, _, ⟨c1, c2, F1, F2, hc, hF, h1, h2⟩ => by
  subst hF
  intro b hb
  rcases List.mem_append.1 hb with hb | hb
  ·exact h x c1 F1 h1 b hb
  ·exact RelL_lt h xs c2 F2 h2 b hb

theorem OwR_lt {α : Type} {w : World} {sz : Nat} {R : α → List Value → List Nat → Prop} (h : ∀ x cs F, R x cs F → ∀ b ∈ F, b < w.heap.size) {xs : List α} {v : Value} {F : List Nat} (hr : OwR w sz R xs v F) : ∀ b ∈ F, b < w.heap.size := by
 rcases hr with ⟨_, _, rfl⟩ | ⟨b, cap, c, F', _, _, _, hb, _, hl, rfl⟩
 ·simp
 ·intro x hx
  rcases List.mem_cons.1 hx with rfl | hx
  ·exact hb.lt
  ·exact RelL_lt h xs _ F' hl x hx

theorem Rel_lt {w : World} {B : Nat → Prop} : ∀ (t : Ty) (x : T t) cs F, Rel w B t x cs F → ∀ b ∈ F, b < w.heap.size
 | .int _, _, _, _, ⟨_, _, h⟩ => by subst h; simp
 | .bool, _, _, _, ⟨_, h⟩ => by subst h; simp
 | .str, _, _, _, ⟨_, _, _, _, h⟩ => by subst h; simp
 | .unit, _, _, _, ⟨_, h⟩ => by subst h; simp
 | .pair a b, x, _, _, ⟨c1, c2, F1, F2, _, hF, h1, h2⟩ => by
  subst hF
  intro y hy
  rcases List.mem_append.1 hy with hy | hy
  ·exact Rel_lt a _ _ _ h1 y hy
  ·exact Rel_lt b _ _ _ h2 y hy
 | .agg a, x, cs, F, h => Rel_lt a x cs F h
 | .arr n e, xs, cs, F, h => RelL_lt (fun x cs F h => Rel_lt e x cs F h) _ _ _ h.2
 | .slice e, xs, cs, F, h => by have := h.1; subst this; simp
 | .own e, xs, cs, F, ⟨_, _, h⟩ => OwR_lt (fun x cs F h => Rel_lt e x cs F h) h
 | .app e, xs, cs, F, ⟨_, _, h⟩ => by
  rcases h with h | ⟨h, _⟩
  ·exact OwR_lt (fun x cs F h => Rel_lt e x cs F h) h
  ·subst h; simp
 | .junk, _, _, _, ⟨_, h⟩ => by subst h; simp
 | .ptr t, o, cs, F, h => by have := h.1; subst this; simp
 | .box t, o, cs, F, h => by
  cases o with
  | none => have := h.2; subst this; simp
  | some x =>
   obtain ⟨b, c, F', _, hb, hr, rfl⟩ := h
   intro y hy
   rcases List.mem_cons.1 hy with rfl | hy
   ·exact hb.lt
   ·exact Rel_lt t x _ _ hr y hy
 | .nils _, _, _, _, ⟨_, h⟩ => by subst h; simp
 | .nilp, _, _, _, ⟨_, h⟩ => by subst h; simp
 | .nili, _, _, _, ⟨_, h⟩ => by subst h; simp
 | .alt u t r, s, cs, F, h => by have := h.1; subst this; simp
 | .iter, x, cs, F, h => by
  obtain ⟨b, s, _, rfl, h3, _⟩ := h
  intro y hy
  rw [List.mem_singleton.1 hy]
  exact (Array.getElem?_eq_some_iff.1 h3).1

section
variable {X : Cx} {st : St} {a : Act} {w : World} {B : Nat → Prop} {G : Nat → PG} {E : Operand → Option EV}

theorem PG.mem_blocks {g : PG} {b : Nat} (h : b ∈ g.F) : b ∈ g.blocks := by
 unfold PG.blocks
 split
 ·exact List.mem_cons_of_mem _ h
 ·exact h

theorem PG.F_nodup {g : PG} (h : g.blocks.Nodup) : g.F.Nodup := by
 unfold PG.blocks at h
 split at h
 ·exact (List.nodup_cons.1 h).2
 ·exact h

def setG (G : Nat → PG) (n : Nat) (g : PG) : Nat → PG := fun m => if m = n then g else G m
theorem setG_same (G : Nat → PG) (n : Nat) (g : PG) : setG G n g n = g := by simp [setG]
theorem setG_ne (G : Nat → PG) {n m : Nat} (g : PG) (h : m ≠ n) : setG G n g m = G m := by simp [setG, h]

theorem Inv.cut (h : Inv X st a w B G) {n : Nat} {d : Dyn} (hd : lk n st.pl = some d) {p : Path} {y : ODyn} {v : T y.ty} (hg : getP ⟨d.ty, some d.val⟩ p = some y) (hv : y.val = some v) :
  ∃ o mid F2, offP d.ty p = some (o, y.ty) ∧ mid = ((G n).cells.drop o).take y.ty.size ∧ Rel w B y.ty v mid F2 ∧ (∀ b ∈ F2, b ∈ (G n).F) ∧ F2.Nodup ∧
   ∀ (B' : Nat → Prop) (u : Ty) (z : T u) (r : ODyn) (k : T r.ty), (∀ b, B b → B' b) → (∀ b, B' b → B b ∨ b ∈ F2) → sk u = sk y.ty → Rel w B' u z mid [] →
    setP ⟨d.ty, some d.val⟩ p ⟨u, some z⟩ = some r → r.val = some k →
    ∃ G', Inv X (applyU [(n, .keep ⟨r.ty, k⟩)] st) a w B' G' ∧ (∀ m, (G' m).cells = (G m).cells) ∧ (∀ m, (G' m).addr = (G m).addr) ∧ (∀ b ∈ F2, ∀ m d', lk m (applyU [(n, .keep ⟨r.ty, k⟩)] st).pl = some d' → b ∉ (G' m).blocks) ∧
     (∀ m, ∀ b ∈ (G' m).blocks, b ∈ (G m).blocks) ∧ ∀ m, m ≠ n → G' m = G m := by
 obtain ⟨hR, hA⟩ := h.pl n d hd
 obtain ⟨o, pre, mid, post, F1, F2, F3, ho, hc, hl, hF, hm, hrep⟩ := getP_rel p d.ty d.val y v _ _ hg hv hR
 obtain ⟨hnd, hsep⟩ := h.sep n d hd
 have hFn := PG.F_nodup hnd
 rw [hF] at hFn
 have hmid : mid = ((G n).cells.drop o).take y.ty.size := by
  rw [hc, List.append_assoc, List.drop_append_of_le_length (by omega), ← hl, List.drop_length, List.nil_append, ← Rel_length w B _ _ _ _ hm, List.take_left']
  rfl
 have hin : ∀ b ∈ F2, b ∈ (G n).F := fun b hb => by rw [hF]; simp [hb]
 have hn1 := List.nodup_append.1 hFn
 have hn2 := List.nodup_append.1 hn1.1
 have hdis : ∀ b ∈ F2, b ∉ F1 ++ F3 := by
  intro b hb hm
  rcases List.mem_append.1 hm with hm | hm
  ·exact hn2.2.2 b hm b hb rfl
  ·exact hn1.2.2 b (List.mem_append.2 (.inr hb)) b hm rfl
 refine ⟨o, mid, F2, ho, hmid, hm, hin, hn2.2.1, fun B' u z r k hB1 hB2 hsk hz hset hk => ?_⟩
 have hsub : (F1 ++ F3).Sublist (F1 ++ F2 ++ F3) := by
  rw [List.append_assoc]; exact (List.Sublist.refl F1).append (List.sublist_append_right F2 F3)
 let g' : PG := { addr := (G n).addr, cells := (G n).cells, F := F1 ++ F3 }
 have hbl : g'.blocks.Sublist (G n).blocks := by
  unfold PG.blocks
  show (match (G n).addr with | some a => a.1 :: (F1 ++ F3) | none => F1 ++ F3).Sublist _
  cases (G n).addr with
  | none => simp [hF]
  | some q => simp [hF]
 have haddr : ∀ b ∈ F2, b ∉ g'.blocks := by
  intro b hb hm
  unfold PG.blocks at hm
  have hm : b ∈ (match (G n).addr with | some a => a.1 :: (F1 ++ F3) | none => F1 ++ F3) := hm
  cases hq : (G n).addr with
  | none => rw [hq] at hm; exact hdis b hb hm
  | some q =>
   rw [hq] at hm
   rcases List.mem_cons.1 hm with hm | hm
   ·unfold PG.blocks at hnd
    rw [hq] at hnd
    exact (List.nodup_cons.1 hnd).1 (hm ▸ hin b hb)
   ·exact hdis b hb hm
 have hpl' : ∀ m d', lk m (applyU [(n, .keep ⟨r.ty, k⟩)] st).pl = some d' → (m = n ∧ d' = ⟨r.ty, k⟩) ∨ (m ≠ n ∧ lk m st.pl = some d') := by
  intro m d' hm
  have hm : lk m (Pv.put n (⟨r.ty, k⟩ : Dyn) st.pl) = some d' := hm
  rw [lk_put] at hm
  split at hm
  ·rename_i e; exact .inl ⟨e, (Option.some.inj hm).symm⟩
  ·rename_i e; exact .inr ⟨e, hm⟩
 have hblk : ∀ m, ∀ b ∈ (setG G n g' m).blocks, b ∈ (G m).blocks := by
  intro m b hb
  by_cases e : m = n
  ·subst e; rw [setG_same] at hb; exact hbl.subset hb
  ·rw [setG_ne G g' e] at hb; exact hb
 have hskr : sk r.ty = sk d.ty := setP_sk p ⟨d.ty, some d.val⟩ y ⟨u, some z⟩ r hg hset hsk
 refine ⟨setG G n g', ?_, ?_, ?_, ?_, hblk, fun m e => setG_ne G g' e⟩
 ·refine h.move [(n, .keep ⟨r.ty, k⟩)] w B' (setG G n g') (Nat.le_refl _) ⟨rfl, rfl, rfl, fun _ => Nat.le_refl _⟩ (fun b hb => ⟨rfl, hB1 b hb⟩) ?_ ?_ (fun _ _ _ => rfl) ?_ ?_ ?_ ?_ ?_ (fun _ _ _ _ _ _ _ => rfl) (by simp [Upd.isDel])
  ·intro b hb
   rcases hB2 b hb with hb | hb
   ·exact h.bsz b hb
   ·exact Rel_lt _ _ _ _ hR b (hin b hb)
  ·intro b hb hb'
   rcases hB2 b hb' with hb' | hb'
   ·exact .inl hb'
   ·exact .inr ((hsep b (PG.mem_blocks (hin b hb'))).2 hb)
  ·intro m d' hm
   rcases hpl' m d' hm with ⟨rfl, rfl⟩ | ⟨hne, hm⟩
   ·rw [setG_same]
    refine ⟨⟨?_, ?_⟩, hbl.nodup hnd, ?_⟩
    ·have := hrep w B' (fun _ _ => rfl) hB1 (fun _ _ => rfl) u z mid [] r k hz hset hk
     show Rel w B' r.ty k (G m).cells (F1 ++ F3)
     rw [hc]; simpa using this
    ·exact hA
    ·intro b hb
     have hb' := hbl.subset hb
     refine ⟨fun hB => ?_, (hsep b hb').2⟩
     rcases hB2 b hB with hB | hB
     ·exact (hsep b hb').1 hB
     ·exact haddr b hB hb
   ·rw [setG_ne G g' hne]
    obtain ⟨⟨h1, h2⟩, h3⟩ := And.intro (h.pl m d' hm) (h.sep m d' hm)
    refine ⟨⟨Rel_same (fun _ _ => rfl) hB1 _ _ _ _ h1 (fun _ _ => rfl), h2⟩, h3.1, fun b hb => ⟨fun hB => ?_, (h3.2 b hb).2⟩⟩
    rcases hB2 b hB with hB | hB
    ·exact (h3.2 b hb).1 hB
    ·exact h.apart m n d' d hm hd hne b hb (PG.mem_blocks (hin b hB))
  ·intro m m' d1 d2 h1 h2 hne b hb hb'
   have e1 : ∃ d, lk m st.pl = some d := by
    rcases hpl' m d1 h1 with ⟨rfl, _⟩ | ⟨_, h⟩
    ·exact ⟨d, hd⟩
    ·exact ⟨_, h⟩
   have e2 : ∃ d, lk m' st.pl = some d := by
    rcases hpl' m' d2 h2 with ⟨rfl, _⟩ | ⟨_, h⟩
    ·exact ⟨d, hd⟩
    ·exact ⟨_, h⟩
   obtain ⟨x1, e1⟩ := e1
   obtain ⟨x2, e2⟩ := e2
   exact h.apart m m' x1 x2 e1 e2 hne b (hblk m b hb) (hblk m' b hb')
  ·intro m hm
   exact setG_ne G g' (by simpa [updNames] using hm)
  ·intro u' hu'
   have : u' = (n, .keep ⟨r.ty, k⟩) := by simpa using hu'
   subst this
   right
   simp only [setG_same]
   exact ⟨rfl, ⟨d, ⟨r.ty, k⟩, hd, by show lk n (Pv.put n _ st.pl) = _; rw [lk_put]; simp, hskr⟩, .inr (.inl rfl)⟩
  ·intro k' d' hk'
   rcases hpl' _ d' hk' with ⟨e, rfl⟩ | ⟨hne, hm⟩
   ·subst e
    rw [setG_same]
    obtain ⟨b, o', s, h1, h2, h3⟩ := h.obj k' d hd
    exact ⟨b, o', s, h1, h2, by show r.ty.size = s; rw [size_of_sk hskr, h3]⟩
   ·rw [setG_ne G g' hne]
    exact h.obj k' d' hm
 ·intro m
  by_cases e : m = n
  ·subst e; rw [setG_same]
  ·rw [setG_ne G g' e]
 ·intro m
  by_cases e : m = n
  ·subst e; rw [setG_same]
  ·rw [setG_ne G g' e]
 ·intro b hb m d' hm hbm
  rcases hpl' m d' hm with ⟨rfl, rfl⟩ | ⟨hne, hm⟩
  ·rw [setG_same] at hbm
   exact haddr b hb hbm
  ·rw [setG_ne G g' hne] at hbm
   exact h.apart m n d' d hm hd hne b hbm (PG.mem_blocks (hin b hb))

theorem EVR_keep {tv : Nat → Value} {w w' : World} {B B' : Nat → Prop} {G G' : Nat → PG} {L L' : Look} (hB : ∀ b, B b → Same w w' b ∧ B' b) (hc : ∀ m, (G' m).cells = (G m).cells) (ha : ∀ m, (G' m).addr = (G m).addr)
  (hL : ∀ m d, L m = some d → ∃ d', L' m = some d' ∧ sk d'.ty = sk d.ty) {e : EV} {v : Value} (h : EVR tv w B G L e v) : EVR tv w' B' G' L' e v :=
 EVR_mono hB e v h (fun m _ => ⟨hL m, ha m⟩) (fun m _ => hc m)

theorem look_keep {st : St} {n : Nat} {d r : Dyn} (hd : lk n st.pl = some d) (hs : sk r.ty = sk d.ty) : ∀ m d0, look st m = some d0 → ∃ d', look (applyU [(n, .keep r)] st) m = some d' ∧ sk d'.ty = sk d0.ty := by
 intro m d0 hm
 show ∃ d', lk m (put n r st.pl) = some d' ∧ _
 rw [lk_put]
 split
 ·rename_i e
  subst e
  have hm : lk m st.pl = some d0 := hm
  rw [hd] at hm
  obtain rfl := Option.some.inj hm
  exact ⟨r, rfl, hs⟩
 ·exact ⟨d0, hm, rfl⟩

theorem sk_frz : ∀ t : Ty, sk (frz t) = sk t
 | .pair a b => by simp [frz, sk, sk_frz a, sk_frz b]
 | .agg a => by simp [frz, sk, sk_frz a]
 | .arr _ _ => rfl
 | .int _ => rfl
 | .bool => rfl
 | .str => rfl
 | .unit => rfl
 | .slice _ => rfl
 | .app _ => rfl
 | .own _ => rfl
 | .junk => rfl
 | .ptr _ => rfl
 | .box _ => rfl
 | .nils _ => rfl
 | .nilp => rfl
 | .nili => rfl
 | .alt _ _ _ => rfl
 | .iter => rfl

structure From (st : St) (G : Nat → PG) (B : Nat → Prop) (st' : St) (G' : Nat → PG) (B' : Nat → Prop) : Prop where
 shut : ∀ b, B' b → B b ∨ ∃ n d, lk n st.pl = some d ∧ b ∈ (G n).blocks
 pl : ∀ n d, lk n st'.pl = some d → ∃ d0, lk n st.pl = some d0 ∧ ∀ b ∈ (G' n).blocks, b ∈ (G n).blocks

theorem From.refl (st : St) (G : Nat → PG) (B : Nat → Prop) : From st G B st G B := ⟨fun _ h => .inl h, fun _ d h => ⟨d, h, fun _ hb => hb⟩⟩

theorem From.trans {st st1 st2 : St} {G G1 G2 : Nat → PG} {B B1 B2 : Nat → Prop} (h : From st G B st1 G1 B1) (h' : From st1 G1 B1 st2 G2 B2) : From st G B st2 G2 B2 := by
 refine ⟨fun b hb => ?_, fun n d hd => ?_⟩
 ·rcases h'.shut b hb with hb | ⟨n, d, hd, hb⟩
  ·exact h.shut b hb
  ·obtain ⟨d0, h0, h1⟩ := h.pl n d hd
   exact .inr ⟨n, d0, h0, h1 b hb⟩
 ·obtain ⟨d1, h1, h2⟩ := h'.pl n d hd
  obtain ⟨d0, h3, h4⟩ := h.pl n d1 h1
  exact ⟨d0, h3, fun b hb => h4 b (h2 b hb)⟩

theorem From.keep {st : St} {G G' : Nat → PG} {B B' : Nat → Prop} {n : Nat} {d d' : Dyn} (hd : lk n st.pl = some d) (hsb : ∀ m, ∀ b ∈ (G' m).blocks, b ∈ (G m).blocks) (hB : ∀ b, B' b → B b ∨ ∃ n d, lk n st.pl = some d ∧ b ∈ (G n).blocks) : From st G B (applyU [(n, .keep d')] st) G' B' := by
 refine ⟨hB, fun m dm hm => ?_⟩
 have hm : lk m (put n d' st.pl) = some dm := hm
 rw [lk_put] at hm
 by_cases e : m = n
 ·subst e; exact ⟨d, hd, hsb m⟩
 ·rw [if_neg e] at hm; exact ⟨dm, hm, hsb m⟩

theorem take_ok' (h : Inv X st a w B G) {e : EV} {v : Value} (he : EVR (tv a) w B G (look st) e v) {y : ODyn} {U : Upds} (ht : e.take (look st) = some (y, U)) {x : T y.ty} (hx : y.val = some x) :
  ∃ B' G', Inv X (applyU U st) a w B' G' ∧ y.ty.pure = true ∧ VR w B' y.ty x v [] ∧ (∀ b, B b → B' b) ∧ (∀ n d, n ∉ updNames U → lk n st.pl = some d → lk n (applyU U st).pl = some d ∧ G' n = G n) ∧
   (∀ e' v', EVR (tv a) w B G (look st) e' v' → EVR (tv a) w B' G' (look (applyU U st)) e' v') ∧ From st G B (applyU U st) G' B' := by
 have triv : U = [] → y.ty.pure = true → VR w B y.ty x v [] → ∃ B' G', Inv X (applyU U st) a w B' G' ∧ y.ty.pure = true ∧ VR w B' y.ty x v [] ∧ (∀ b, B b → B' b) ∧ (∀ n d, n ∉ updNames U → lk n st.pl = some d → lk n (applyU U st).pl = some d ∧ G' n = G n) ∧
   (∀ e' v', EVR (tv a) w B G (look st) e' v' → EVR (tv a) w B' G' (look (applyU U st)) e' v') ∧ From st G B (applyU U st) G' B' := by
  intro hU hp hv
  subst hU
  exact ⟨B, G, h, hp, hv, fun _ h => h, fun _ _ _ h => ⟨h, rfl⟩, fun _ _ h => h, From.refl st G B⟩
 cases e with
 | val d =>
  simp only [EV.take, Option.some.injEq, Prod.mk.injEq] at ht
  obtain ⟨rfl, hU⟩ := ht
  obtain rfl := Option.some.inj hx
  simp only [EVR] at he
  exact triv hU.symm he.1 he.2
 | alias t' p' d =>
  simp only [EV.take, Option.some.injEq, Prod.mk.injEq] at ht
  obtain ⟨rfl, hU⟩ := ht
  obtain rfl := Option.some.inj hx
  simp only [EVR] at he
  exact triv hU.symm he.1.1 he.1.2
 | clip e xs =>
  obtain ⟨F, hv⟩ := rd_ok h he (t := .slice e) (x := xs) rfl
  simp only [EV.take, Option.some.injEq, Prod.mk.injEq] at ht
  obtain ⟨rfl, hU⟩ := ht
  obtain rfl := Option.some.inj hx
  simp only [EVR] at he
  have hp : (Ty.slice e).pure = true := he.1
  obtain rfl := Rel_pure w B _ _ _ F hp hv.1
  exact triv hU.symm hp hv
 | at_ n p =>
  simp only [EV.take] at ht
  obtain ⟨d, hd, ht⟩ := bind_some ht
  obtain ⟨y0, hy0, ht⟩ := bind_some ht
  split at ht
  ·rename_i hp
   simp only [Option.some.injEq, Prod.mk.injEq] at ht
   obtain ⟨rfl, hU⟩ := ht
   obtain ⟨F, hv⟩ := rd_ok h he (t := y0.ty) (x := x) (by simp only [EV.rd, hd, Option.bind_some, hy0]; rw [← hx])
   obtain rfl := Rel_pure w B _ _ _ F hp hv.1
   exact triv hU.symm hp hv
  ·split at ht
   ·rename_i hp
    obtain ⟨d', hd', ht⟩ := bind_some ht
    split at ht
    ·rename_i v' hv'
     simp only [Option.some.injEq, Prod.mk.injEq] at ht
     obtain ⟨rfl, rfl⟩ := ht
     obtain ⟨x0, hx0, hxx⟩ := Option.map_eq_some_iff.1 hx
     obtain ⟨o, mid, F2, ho, hmid, hm, hin, hnd, hrep⟩ := h.cut hd hy0 hx0
     simp only [EVR] at he
     obtain ⟨d1, o1, u1, hd1, ho1, hvc, hva⟩ := he
     rw [hd] at hd1
     obtain rfl := Option.some.inj hd1
     rw [ho] at ho1
     simp only [Option.some.injEq, Prod.mk.injEq] at ho1
     obtain ⟨rfl, rfl⟩ := ho1
     have hz := Rel_frz y0.ty x0 mid F2 hp hm
     obtain ⟨G', hI, hc, ha, _, hsb, hgn⟩ := hrep (fun b => B b ∨ b ∈ F2) (frz y0.ty) (frzV y0.ty x0) d' v' (fun _ h => .inl h) (fun _ h => h) (sk_frz _) hz
      (by rw [hx0] at hd'; exact hd') hv'
     subst hxx
     refine ⟨_, G', hI, hp, ⟨?_, ?_⟩, fun _ h => .inl h, fun m dm hm hdm => ⟨by rw [applyU_pl_other _ _ _ hm]; exact hdm, hgn m (by simpa [updNames] using hm)⟩, fun e' v' h' => ?_, From.keep hd hsb fun b hb => hb.imp id (fun hb => ⟨n, d, hd, PG.mem_blocks (hin b hb)⟩)⟩
     ·rw [hvc, ← hmid]; exact hz
     ·show Value.agg? v = (frz y0.ty).isAgg
      rw [hva, agg_of_sk (sk_frz y0.ty)]
     ·refine EVR_keep (fun b hb => ⟨rfl, .inl hb⟩) hc ha (look_keep hd ?_) h'
      exact setP_sk p ⟨d.ty, some d.val⟩ y0 ⟨frz y0.ty, y0.val.map (frzV y0.ty)⟩ d' hy0 hd' (sk_frz _)
    ·cases ht
   ·cases ht
 | _ => cases ht

theorem take_ok (h : Inv X st a w B G) {e : EV} {v : Value} (he : EVR (tv a) w B G (look st) e v) {y : ODyn} {U : Upds} (ht : e.take (look st) = some (y, U)) {x : T y.ty} (hx : y.val = some x) :
  ∃ B' G', Inv X (applyU U st) a w B' G' ∧ y.ty.pure = true ∧ VR w B' y.ty x v [] ∧ (∀ b, B b → B' b) ∧ (∀ n d, n ∉ updNames U → lk n st.pl = some d → lk n (applyU U st).pl = some d ∧ G' n = G n) ∧
   ∀ e' v', EVR (tv a) w B G (look st) e' v' → EVR (tv a) w B' G' (look (applyU U st)) e' v' := by
 obtain ⟨B', G', h1, h2, h3, h4, h5, h6, _⟩ := take_ok' h he ht hx
 exact ⟨B', G', h1, h2, h3, h4, h5, h6⟩

theorem loc_frz (h : Inv X st a w B G) {n : Nat} {v : Value} (hv : EVR (tv a) w B G (look st) (.loc n []) v) {d : Dyn} (hd : lk n st.pl = some d) (hn : n % 2 = 0) (hp : (frz d.ty).pure = true) :
  Inv X (applyU [(n, .del)] st) a w (fun x => B x ∨ x ∈ (G n).blocks) G ∧ VR w (fun x => B x ∨ x ∈ (G n).blocks) (.ptr (frz d.ty)) (some (frzV d.ty d.val)) v [] := by
 simp only [EVR] at hv
 obtain ⟨d1, o1, u1, b, off, hd1, ho1, hg, hvv⟩ := hv
 have hd1 : lk n st.pl = some d1 := hd1
 rw [hd] at hd1
 obtain rfl := Option.some.inj hd1
 simp only [offP, Option.some.injEq, Prod.mk.injEq] at ho1
 obtain ⟨rfl, rfl⟩ := ho1
 obtain ⟨hR, hA⟩ := h.pl n d hd
 rw [hg] at hA
 obtain ⟨hrows, c, hblk⟩ := hA
 obtain ⟨hnd, hsep⟩ := h.sep n d hd
 have hbl : (G n).blocks = b :: (G n).F := by unfold PG.blocks; rw [hg]
 have hpl : ∀ m d', lk m (applyU [(n, .del)] st).pl = some d' → m ≠ n ∧ lk m st.pl = some d' := by
  intro m d' hm
  have hm : lk m (rmv n st.pl) = some d' := hm
  rw [lk_rmv] at hm
  split at hm
  ·cases hm
  ·rename_i e; exact ⟨e, hm⟩
 constructor
 ·refine h.move [(n, .del)] w (fun x => B x ∨ x ∈ (G n).blocks) G (Nat.le_refl _) ⟨rfl, rfl, rfl, fun _ => Nat.le_refl _⟩ (fun b hb => ⟨rfl, .inl hb⟩) ?_ (fun b hb hB => hB.imp id (fun hx => (hsep b hx).2 hb)) (fun _ _ _ => rfl) ?_ ?_ (fun _ _ => rfl) ?_ ?_ (fun _ _ _ _ _ _ _ => rfl)
   (by intro u hu _; rw [List.mem_singleton] at hu; rw [hu]; exact hn)
  ·intro x hx
   rcases hx with hx | hx
   ·exact h.bsz x hx
   ·rw [hbl] at hx
    rcases List.mem_cons.1 hx with rfl | hx
    ·exact hblk.lt
    ·exact Rel_lt _ _ _ _ hR x hx
  ·intro m d' hm
   obtain ⟨hne, hm⟩ := hpl m d' hm
   obtain ⟨h1, h2⟩ := h.pl m d' hm
   obtain ⟨h3, h4⟩ := h.sep m d' hm
   refine ⟨⟨Rel_same (fun _ _ => rfl) (fun _ h => .inl h) _ _ _ _ h1 (fun _ _ => rfl), h2⟩, h3, fun b hb => ⟨fun hB => ?_, (h4 b hb).2⟩⟩
   rcases hB with hB | hB
   ·exact (h4 b hb).1 hB
   ·exact h.apart m n d' d hm hd hne b hb hB
  ·intro m m' d1 d2 h1 h2 hne
   exact h.apart m m' d1 d2 (hpl _ _ h1).2 (hpl _ _ h2).2 hne
  ·intro u hu
   rw [List.mem_singleton] at hu
   subst hu
   exact .inl rfl
  ·intro k d' hk
   exact h.obj k d' (hpl _ _ hk).2
 ·refine ⟨⟨rfl, b, off, (G n).cells, ?_, .inr (by rw [hbl]; simp), hrows, ?_⟩, by rw [hvv]; rfl⟩
  ·rw [hvv]; rfl
  ·exact Rel_same (fun _ _ => rfl) (fun x hx => hx.imp id (fun hx => PG.mem_blocks hx)) _ _ _ _ (Rel_frz d.ty d.val _ _ hp hR) (by simp)

theorem mv_ok' (h : Inv X st a w B G) {e : EV} {v : Value} (he : EVR (tv a) w B G (look st) e v) {y : ODyn} {U : Upds} (ht : e.mv (look st) = some (y, U)) {x : T y.ty} (hx : y.val = some x) :
  ∃ B' G' F, Inv X (applyU U st) a w B' G' ∧ VR w B' y.ty x v F ∧ (∀ b, B b → B' b) ∧ F.Nodup ∧ (∀ b ∈ F, ¬ B' b ∧ b < w.heap.size ∧ (b < X.w0.heap.size → b ∈ X.ob)) ∧
   (∀ b ∈ F, ∀ m d, lk m (applyU U st).pl = some d → b ∉ (G' m).blocks) ∧
   (∀ n d, n ∉ updNames U → lk n st.pl = some d → lk n (applyU U st).pl = some d ∧ G' n = G n) ∧
   (∀ e' v', EVR (tv a) w B G (look st) e' v' → (∀ m ∈ updNames U, e'.hits m true = false) → EVR (tv a) w B' G' (look (applyU U st)) e' v') ∧ From st G B (applyU U st) G' B' ∧ ∀ b ∈ F, ∃ n d, lk n st.pl = some d ∧ b ∈ (G n).blocks := by
 have viaTake : ∀ {y : ODyn} {U : Upds} {x : T y.ty}, e.take (look st) = some (y, U) → y.val = some x →
  ∃ B' G' F, Inv X (applyU U st) a w B' G' ∧ VR w B' y.ty x v F ∧ (∀ b, B b → B' b) ∧ F.Nodup ∧ (∀ b ∈ F, ¬ B' b ∧ b < w.heap.size ∧ (b < X.w0.heap.size → b ∈ X.ob)) ∧
   (∀ b ∈ F, ∀ m d, lk m (applyU U st).pl = some d → b ∉ (G' m).blocks) ∧
   (∀ n d, n ∉ updNames U → lk n st.pl = some d → lk n (applyU U st).pl = some d ∧ G' n = G n) ∧
   (∀ e' v', EVR (tv a) w B G (look st) e' v' → (∀ m ∈ updNames U, e'.hits m true = false) → EVR (tv a) w B' G' (look (applyU U st)) e' v') ∧ From st G B (applyU U st) G' B' ∧ ∀ b ∈ F, ∃ n d, lk n st.pl = some d ∧ b ∈ (G n).blocks := by
  intro y U x ht hx
  obtain ⟨B', G', hI, _, hv, hB, ho, hE, hFr⟩ := take_ok' h he ht hx
  exact ⟨B', G', [], hI, hv, hB, by simp, by simp, by simp, ho, fun e' v' h' _ => hE e' v' h', hFr, by simp⟩
 cases e with
 | at_ n p =>
  cases p with
  | nil =>
   simp only [EV.mv] at ht
   obtain ⟨d, hd, ht⟩ := bind_some ht
   obtain ⟨F, hv⟩ := rd_ok h he (t := d.ty) (x := d.val) (by simp only [EV.rd, hd, Option.bind_some, getP])
   split at ht
   ·rename_i hp
    simp only [Option.some.injEq, Prod.mk.injEq] at ht
    obtain ⟨rfl, rfl⟩ := ht
    obtain rfl := Option.some.inj hx
    obtain rfl := Rel_pure w B _ _ _ F hp hv.1
    exact ⟨B, G, [], h, hv, fun _ h => h, by simp, by simp, by simp, fun _ _ _ h => ⟨h, rfl⟩, fun _ _ h _ => h, From.refl st G B, by simp⟩
   split at ht
   rotate_left
   ·cases ht
   ·rename_i heven
    have heven := Nat.eq_of_beq_eq_true heven
    simp only [Option.some.injEq, Prod.mk.injEq] at ht
    obtain ⟨rfl, rfl⟩ := ht
    obtain rfl := Option.some.inj hx
    have hd : lk n st.pl = some d := hd
    simp only [EVR] at he
    obtain ⟨d1, o1, u1, hd1, ho1, hvc, hva⟩ := he
    have hd1 : lk n st.pl = some d1 := hd1
    rw [hd] at hd1
    obtain rfl := Option.some.inj hd1
    simp only [offP, Option.some.injEq, Prod.mk.injEq] at ho1
    obtain ⟨rfl, rfl⟩ := ho1
    obtain ⟨hR, hA⟩ := h.pl n d hd
    obtain ⟨hnd, hsep⟩ := h.sep n d hd
    have hpl : ∀ m d', lk m (applyU [(n, .del)] st).pl = some d' → m ≠ n ∧ lk m st.pl = some d' := by
     intro m d' hm
     have hm : lk m (rmv n st.pl) = some d' := hm
     rw [lk_rmv] at hm
     split at hm
     ·cases hm
     ·rename_i e; exact ⟨e, hm⟩
    refine ⟨B, G, (G n).F, ?_, ⟨?_, hva⟩, fun _ h => h, PG.F_nodup hnd, ?_, ?_, ?_, ?_, ⟨fun _ h => .inl h, fun m d' hm => ⟨d', (hpl m d' hm).2, fun _ hb => hb⟩⟩, fun b hb => ⟨n, d, hd, PG.mem_blocks hb⟩⟩
    ·refine h.move [(n, .del)] w B G (Nat.le_refl _) ⟨rfl, rfl, rfl, fun _ => Nat.le_refl _⟩ (fun b hb => ⟨rfl, hb⟩) h.bsz (fun _ _ h => .inl h) (fun _ _ _ => rfl) ?_ ?_ (fun _ _ => rfl) ?_ ?_ (fun _ _ _ _ _ _ _ => rfl) (by intro u hu _; rw [List.mem_singleton] at hu; rw [hu]; exact heven)
     ·intro m d' hm
      exact ⟨h.pl m d' (hpl m d' hm).2, h.sep m d' (hpl m d' hm).2⟩
     ·intro m m' d1 d2 h1 h2 hne
      exact h.apart m m' d1 d2 (hpl _ _ h1).2 (hpl _ _ h2).2 hne
     ·intro u hu
      have : u = (n, .del) := by simpa using hu
      subst this
      exact .inl rfl
     ·intro k d' hk
      exact h.obj k d' (hpl _ _ hk).2
    ·rw [hvc]
     have := Rel_length w B _ _ _ _ hR
     rw [List.drop_zero, ← this, List.take_length]
     exact hR
    ·intro b hb
     exact ⟨(hsep b (PG.mem_blocks hb)).1, Rel_lt _ _ _ _ hR b hb, (hsep b (PG.mem_blocks hb)).2⟩
    ·intro b hb m d' hm hbm
     obtain ⟨hne, hm⟩ := hpl m d' hm
     exact h.apart m n d' d hm hd hne b hbm (PG.mem_blocks hb)
    ·intro m dm hm hdm
     rw [applyU_pl_other _ _ _ hm]
     exact ⟨hdm, rfl⟩
    ·intro e' v' h' hno
     have hno := hno n (by simp [updNames])
     refine EVR_mono (fun b hb => ⟨rfl, hb⟩) e' v' h' (fun m hm => ⟨fun d0 hd0 => ⟨d0, ?_, rfl⟩, rfl⟩) (fun _ _ => rfl)
     show lk m (rmv n st.pl) = some d0
     rw [lk_rmv]
     split
     ·rename_i e; subst e; rw [hno] at hm; cases hm
     ·exact hd0
  | cons s p => exact viaTake ht hx
 | loc n p =>
  cases p with
  | nil =>
   simp only [EV.mv] at ht
   obtain ⟨d, hd, ht⟩ := bind_some ht
   split at ht
   ·rename_i hk
    simp only [Bool.and_eq_true] at hk
    simp only [Option.some.injEq, Prod.mk.injEq] at ht
    obtain ⟨rfl, rfl⟩ := ht
    obtain rfl := Option.some.inj hx
    have hd : lk n st.pl = some d := hd
    obtain ⟨hI, hV⟩ := loc_frz h he hd (Nat.eq_of_beq_eq_true hk.1) hk.2
    refine ⟨_, G, [], hI, hV, fun _ h => .inl h, by simp, by simp, by simp, ?_, ?_, ⟨fun _ h => h.imp id fun hb => ⟨n, d, hd, hb⟩, fun m d' hm => ?_⟩, by simp⟩
    ·intro m dm hm hdm
     rw [applyU_pl_other _ _ _ hm]
     exact ⟨hdm, rfl⟩
    ·intro e' v' h' hno
     have hno := hno n (by simp [updNames])
     refine EVR_mono (fun b hb => ⟨rfl, .inl hb⟩) e' v' h' (fun m hm => ⟨fun d0 hd0 => ⟨d0, ?_, rfl⟩, rfl⟩) (fun _ _ => rfl)
     show lk m (rmv n st.pl) = some d0
     rw [lk_rmv]
     split
     ·rename_i e; subst e; rw [hno] at hm; cases hm
     ·exact hd0
    ·have hm : lk m (rmv n st.pl) = some d' := hm
     rw [lk_rmv] at hm
     split at hm
     ·cases hm
     ·exact ⟨d', hm, fun _ hb => hb⟩
   ·cases ht
  | cons s p => exact viaTake ht hx
 | _ => exact viaTake ht hx

theorem mv_ok (h : Inv X st a w B G) {e : EV} {v : Value} (he : EVR (tv a) w B G (look st) e v) {y : ODyn} {U : Upds} (ht : e.mv (look st) = some (y, U)) {x : T y.ty} (hx : y.val = some x) :
  ∃ B' G' F, Inv X (applyU U st) a w B' G' ∧ VR w B' y.ty x v F ∧ (∀ b, B b → B' b) ∧ F.Nodup ∧ (∀ b ∈ F, ¬ B' b ∧ b < w.heap.size ∧ (b < X.w0.heap.size → b ∈ X.ob)) ∧
   (∀ b ∈ F, ∀ m d, lk m (applyU U st).pl = some d → b ∉ (G' m).blocks) ∧
   (∀ n d, n ∉ updNames U → lk n st.pl = some d → lk n (applyU U st).pl = some d ∧ G' n = G n) ∧
   ∀ e' v', EVR (tv a) w B G (look st) e' v' → (∀ m ∈ updNames U, e'.hits m true = false) → EVR (tv a) w B' G' (look (applyU U st)) e' v' := by
 obtain ⟨B', G', F, h1, h2, h3, h4, h5, h6, h7, h8, _, _⟩ := mv_ok' h he ht hx
 exact ⟨B', G', F, h1, h2, h3, h4, h5, h6, h7, h8⟩

theorem part_ok (h : Inv X st a w B G) {e : EV} {v : Value} (he : EVR (tv a) w B G (look st) e v) {y : ODyn} {U : Upds} (ht : e.part (look st) = some (y, U)) {x : T y.ty} (hx : y.val = some x) :
  ∃ B' G' F, Inv X (applyU U st) a w B' G' ∧ VR w B' y.ty x v F ∧ (∀ b, B b → B' b) ∧ F.Nodup ∧ (∀ b ∈ F, ¬ B' b ∧ b < w.heap.size ∧ (b < X.w0.heap.size → b ∈ X.ob)) ∧
   (∀ b ∈ F, ∀ m d, lk m (applyU U st).pl = some d → b ∉ (G' m).blocks) ∧
   (∀ e' v', EVR (tv a) w B G (look st) e' v' → (∀ m ∈ updNames U, e'.hits m true = false) → EVR (tv a) w B' G' (look (applyU U st)) e' v') ∧ From st G B (applyU U st) G' B' ∧ ∀ b ∈ F, ∃ n d, lk n st.pl = some d ∧ b ∈ (G n).blocks := by
 have viaMv : e.mv (look st) = some (y, U) → ∃ B' G' F, Inv X (applyU U st) a w B' G' ∧ VR w B' y.ty x v F ∧ (∀ b, B b → B' b) ∧ F.Nodup ∧ (∀ b ∈ F, ¬ B' b ∧ b < w.heap.size ∧ (b < X.w0.heap.size → b ∈ X.ob)) ∧
   (∀ b ∈ F, ∀ m d, lk m (applyU U st).pl = some d → b ∉ (G' m).blocks) ∧
   (∀ e' v', EVR (tv a) w B G (look st) e' v' → (∀ m ∈ updNames U, e'.hits m true = false) → EVR (tv a) w B' G' (look (applyU U st)) e' v') ∧ From st G B (applyU U st) G' B' ∧ ∀ b ∈ F, ∃ n d, lk n st.pl = some d ∧ b ∈ (G n).blocks := by
  intro ht
  obtain ⟨B', G', F, h1, h2, h3, h4, h5, h6, _, h8, h9, h10⟩ := mv_ok' h he ht hx
  exact ⟨B', G', F, h1, h2, h3, h4, h5, h6, h8, h9, h10⟩
 unfold EV.part at ht
 split at ht
 ·rename_i r hr
  cases hb : (r.1.ty.pure && frzKind r.1.ty) with
  | true =>
   rw [hb, cond_true] at ht
   obtain rfl := Option.some.inj ht
   obtain ⟨B', G', hI, _, hv, hB, _, hE, hFr⟩ := take_ok' h he hr hx
   exact ⟨B', G', [], hI, hv, hB, by simp, by simp, by simp, fun e' v' h' _ => hE e' v' h', hFr, by simp⟩
  | false =>
   rw [hb, cond_false] at ht
   exact viaMv ht
 ·exact viaMv ht

theorem op_indexAddr (h : Inv X st a w B G) (hE : EOk X st a w B G E) {o : Oper} {t : TypeId} {z y : Operand} (ho : o.op = .indexAddr t z y) {Γ : Nat → Option CSem} {dst : Nat} {r : ORes} (he : evalOp X.P Γ (look st) E dst (.indexAddr t z y) o.type = some r) {x : r.α} (hx : r.run = some x) :
  Does X st a w o (r.out x).ev (r.out x).upd := by
 simp only [evalOp] at he
 obtain ⟨ez, hez, he⟩ := bind_some he
 obtain ⟨ey, hey, he⟩ := bind_some he
 obtain ⟨⟨k, i⟩, hi, he⟩ := bind_some he
 have hvz := hE z ez hez
 have hvy := hE y ey hey
 split at he
 ·
  rename_i m e hu
  have hrun : ∀ b off i e', a.eval z = .pointer (some ⟨b, off, none⟩) → a.eval y = .int k i → 0 ≤ i → i < m → sizeOk X.P e e' = true →
    (execOp a.eval o).run X.P w = .ok (.value (.pointer (some ⟨b, off + i.toNat * e'.size, none⟩))) w := by
   intro b off i e' h1 h2 h3 h4 h5
   have hadd : (⟨b, off, none⟩ : Addr).add (i.toNat * e'.size) = ⟨b, off + i.toNat * e'.size, none⟩ := by
    simp only [Addr.add]; split
    ·rename_i h0; rw [h0]; rfl
    ·rfl
   simp [execOp, ho, h1, h2, Instr.indexAt, asIntOf, underlying, hu, Instr.sureAddr, h3, h4, run_sizeOf (w := w) h5, hadd]
  split at he
  ·rename_i n p _ _
   obtain ⟨q, hq, he⟩ := bind_some he
   split at he
   ·rename_i m' e' _
    split at he
    ·rename_i hk
     simp only [Bool.and_eq_true] at hk
     obtain rfl := Nat.eq_of_beq_eq_true hk.1
     obtain rfl := Option.some.inj he
     obtain ⟨i', hi', hx⟩ := bind_some hx
     obtain ⟨_, hck, hxx⟩ := Option.map_eq_some_iff.1 hx
     have hi2 : i = some i' := hi'
     subst hi2
     obtain ⟨h0, h1⟩ := ckI_some hck
     obtain ⟨hiv, _⟩ := int?_ok h hvy hi
     simp only [EVR] at hvz
     obtain ⟨d, o', u', b, off, hd, ho', hg, hvv⟩ := hvz
     simp only [listAt, hd, Option.bind_some] at hq
     obtain ⟨oo, hoo⟩ := getP_off p _ _ hq
     rw [ho'] at hoo
     simp only [Option.some.injEq, Prod.mk.injEq] at hoo
     obtain ⟨rfl, rfl⟩ := hoo
     refine Does.value (hrun b (off + o') i' e' hvv hiv h0 h1 hk.2) h ?_
     simp only []
     have hx' : i' = x := hxx
     rw [← hx']
     simp only [EVR]
     refine ⟨d, o' + i'.toNat * e'.size, e', b, off, hd, ?_, hg, by rw [Nat.add_assoc]⟩
     rw [offP_append, ho']
     simp [offP, offS]
    ·cases he
   ·cases he
  ·rename_i d
   split at he
   ·rename_i m' e' xs _
    split at he
    ·rename_i hk
     simp only [Bool.and_eq_true] at hk
     obtain rfl := Nat.eq_of_beq_eq_true hk.1
     obtain rfl := Option.some.inj he
     obtain ⟨i', hi', hx⟩ := bind_some hx
     have hi2 : i = some i' := hi'
     subst hi2
     obtain ⟨hiv, _⟩ := int?_ok h hvy hi
     obtain ⟨h0, hxi⟩ := rdI_some hx
     simp only [EVR] at hvz
     obtain ⟨hp, b, off, cells, hvv, hB, hr, hR⟩ := hvz
     obtain ⟨hn, hR⟩ := hR
     have hlt : i' < m := by
      have h1 := (List.getElem?_eq_some_iff.1 hxi).1
      have hn : List.length (α := T e') xs = m := hn
      have : i'.toNat < m := by rw [← hn]; exact h1
      omega
     obtain ⟨c1, c2, c3, F1, F2, F3, e1, e2, e3, e4, _⟩ := RelL_split (fun x cs F h => Rel_length w B e' x cs F h) _ _ _ _ _ hR hxi
     refine Does.value (hrun b off i' e' hvv hiv h0 hlt hk.2) h ?_
     simp only [ODyn.res, EVR]
     have hp : e'.pure = true := hp
     obtain rfl := Rel_pure w B _ _ _ _ hp e4
     refine ⟨hp, b, off + i'.toNat * e'.size, c2, rfl, ?_, ?_, e4⟩
     ·rcases hB with hB | hB
      ·exact .inl hB
      ·right
       rw [e1] at hB
       exact (List.append_eq_nil_iff.1 (List.append_eq_nil_iff.1 hB).1).2
     ·intro j c hj
      rw [← e3, Nat.add_assoc]
      refine hr (c1.length + j) c ?_
      rw [e1, List.append_assoc, List.getElem?_append_right (by omega), Nat.add_sub_cancel_left, List.getElem?_append_left (List.getElem?_eq_some_iff.1 hj).1]
      exact hj
    ·cases he
   ·cases he
  ·cases he
 ·
  rename_i e hu
  obtain ⟨ez', hfz, he⟩ := bind_some he
  have hvz' := fix_ok hvz hfz
  obtain ⟨q, hq, he⟩ := bind_some he
  have hrun : ∀ b off i e' len cap, a.eval z = .slice (some ⟨b, off, none⟩) len cap → a.eval y = .int k i → 0 ≤ i → i < len → sizeOk X.P e e' = true →
    (execOp a.eval o).run X.P w = .ok (.value (.pointer (some ⟨b, off + i.toNat * e'.size, none⟩))) w := by
   intro b off i e' len cap h1 h2 h3 h4 h5
   have hadd : (⟨b, off, none⟩ : Addr).add (i.toNat * e'.size) = ⟨b, off + i.toNat * e'.size, none⟩ := by
    simp only [Addr.add]; split
    ·rename_i h0; rw [h0]; rfl
    ·rfl
   simp [execOp, ho, h1, h2, Instr.indexAt, asIntOf, underlying, hu, h3, h4, run_sizeOf (w := w) h5, hadd]
  have key : ∀ (U : Upds) (B' : Nat → Prop) (G' : Nat → PG), Inv X (applyU U st) a w B' G' → ∀ (e' : Ty) (xs : List (T e')) (F : List Nat) (i' : Int) (x : T e'), Rel w B' (.slice e') xs (a.eval z).cells.toList F → Value.agg? (a.eval z) = (Ty.slice e').isAgg →
    sizeOk X.P e e' = true → e'.pure = true → i = some i' → rdI xs i' = some x → Does X st a w o (.ref ⟨e', x⟩) U := by
   intro U B' G' hI e' xs F i' x hR ha hk1 hk2 hi2 hx
   subst hi2
   obtain ⟨hiv, _⟩ := int?_ok h hvy hi
   obtain ⟨h0, hxi⟩ := rdI_some hx
   obtain ⟨_, sv, hsv, a0, cap, cells, hsv2, hlc, hcm, _, hcl, hRL, hA⟩ := hR
   have hsv := cells_one hsv ha
   have hlen := (List.getElem?_eq_some_iff.1 hxi).1
   cases a0 with
   | none =>
    exfalso
    have hA : cap = 0 := hA
    omega
   | some ad =>
    rcases hA with hA | ⟨hsp, hB, hrows⟩
    ·exfalso; rw [hA] at hlen; simp at hlen
    ·obtain ⟨bl, off, sp⟩ := ad
     have hsp : sp = none := hsp
     subst hsp
     subst hsv2
     obtain ⟨c1, c2, c3, F1, F2, F3, e1, e2, e3, e4, _⟩ := RelL_split (fun x cs F h => Rel_length w B' _ x cs F h) _ _ _ _ _ hRL hxi
     have hF2 : F2 = [] := by
      have := (List.append_eq_nil_iff.1 (e2.symm)).1
      exact (List.append_eq_nil_iff.1 this).2
     subst hF2
     refine Does.value (hrun bl off i' _ _ cap hsv hiv h0 (by omega) hk1) hI ?_
     simp only [EVR]
     refine ⟨hk2, bl, _, c2, rfl, .inl hB, ?_, e4⟩
     intro j c hj
     rw [← e3, Nat.add_assoc]
     refine hrows (c1.length + j) c ?_
     rw [e1, List.append_assoc, List.getElem?_append_right (by omega), Nat.add_sub_cancel_left, List.getElem?_append_left (List.getElem?_eq_some_iff.1 hj).1]
     exact hj
  split at he
  ·rename_i e' xs n p _
   split at he
   ·rename_i hk
    obtain rfl := Option.some.inj he
    obtain ⟨i', hi', hx⟩ := bind_some hx
    obtain ⟨_, hck, hxx⟩ := Option.map_eq_some_iff.1 hx
    have hi2 : i = some i' := hi'
    subst hi2
    obtain ⟨h0, h1⟩ := ckI_some hck
    obtain ⟨hiv, _⟩ := int?_ok h hvy hi
    obtain ⟨F, hR, ha⟩ := rd_ok h hvz' hq
    obtain ⟨sv, hsv, hown⟩ := hR
    have hsv := cells_one hsv ha
    rcases hown with ⟨hb, _, _⟩ | ⟨b, cap, c, F', hsv2, _, _, _, _, _, _⟩
    ·have hb : xs = [] := hb
     subst hb
     simp at h1
     omega
    ·subst hsv2
     simp only [EVR] at hvz'
     obtain ⟨d, o', u', hd, ho', hcs, hag⟩ := hvz'
     refine Does.value (hrun b 0 i' e' _ cap hsv hiv h0 h1 hk) h ?_
     simp only []
     have hx' : i' = x := hxx
     rw [← hx']
     simp only [EVR]
     simp only [EV.rd, hd, Option.bind_some] at hq
     obtain ⟨oo, hoo⟩ := getP_off p _ _ hq
     have hoo2 := hoo
     rw [ho'] at hoo2
     simp only [Option.some.injEq, Prod.mk.injEq] at hoo2
     obtain ⟨rfl, rfl⟩ := hoo2
     refine ⟨d, o', _, b, List.length (α := T e') xs, cap, 0, e', hd, ho', ?_, rfl, by rw [Nat.zero_add, Nat.add_zero]⟩
     rw [hsv] at hcs
     have hcs : [Value.slice (some ⟨b, 0, none⟩) xs.length cap] = ((G n).cells.drop o').take 1 := by simpa [Value.cells, Ty.size] using hcs
     have := congrArg (fun l => l[0]?) hcs
     simp at this
     rw [← this]
   ·cases he
  ·split at he
   ·rename_i hk
    obtain rfl := Option.some.inj he
    obtain ⟨i', hi', hx⟩ := bind_some hx
    have hi2 : i = some i' := hi'
    subst hi2
    obtain ⟨F, hR, ha⟩ := rd_ok h hvz' hq
    simp only [Bool.and_eq_true] at hk
    exact key [] B G h _ _ F i' x hR ha hk.1 hk.2 rfl hx
   ·cases he
  ·obtain ⟨q2, hq2, he⟩ := bind_some he
   split at he
   ·rename_i e' xs U
    split at he
    ·rename_i hk
     obtain rfl := Option.some.inj he
     obtain ⟨i', hi', hx⟩ := bind_some hx
     have hi2 : i = some i' := hi'
     subst hi2
     obtain ⟨B', G', hI, _, hv, _, _, _⟩ := take_ok h hvz' hq2 rfl
     simp only [Bool.and_eq_true] at hk
     exact key U B' G' hI e' xs [] i' x hv.1 hv.2 hk.1 hk.2 rfl hx
    ·cases he
   ·cases he
  ·cases he
 ·cases he

end
end
end Go.Pv

namespace Go.Pv
noncomputable section
universe u v

section
variable {X : Cx} {st : St} {a : Act} {w : World} {B : Nat → Prop} {G : Nat → PG} {E : Operand → Option EV}

theorem applyU_append : ∀ (U V : Upds) (s : St), applyU (U ++ V) s = applyU V (applyU U s)
 | [], _, _ => rfl
 | u :: U, V, s => applyU_append U V (apply1 u s)

theorem Same.cell {w w' : World} {b : Nat} (h : Same w w' b) (i : Nat) : w'.cell? ⟨b, i, none⟩ = w.cell? ⟨b, i, none⟩ := by
 have h : w'.heap[b]? = w.heap[b]? := h
 unfold World.cell?
 rw [h]

structure More (w w' : World) : Prop where
 size : w.heap.size ≤ w'.heap.size
 same : ∀ b, b < w.heap.size → Same w w' b
 rest : w'.tape = w.tape ∧ w'.os = w.os ∧ w'.output = w.output ∧ w.drawn ≤ w'.drawn

theorem More.rst {w w' : World} (h : More w w') {p : Prop} : w'.tape = w.tape ∧ w'.os = w.os ∧ w'.output = w.output ∧ (p → w.drawn ≤ w'.drawn) := ⟨h.rest.1, h.rest.2.1, h.rest.2.2.1, fun _ => h.rest.2.2.2⟩

theorem More.refl (w : World) : More w w := ⟨Nat.le_refl _, fun _ _ => rfl, rfl, rfl, rfl, Nat.le_refl _⟩

theorem more_push (w : World) (o : Obj) : More w { w with heap := w.heap.push o } :=
 ⟨by simp, fun b hb => by show ({ w with heap := w.heap.push o } : World).heap[b]? = _; simp [Array.getElem?_push, Nat.ne_of_lt hb], rfl, rfl, rfl, Nat.le_refl _⟩

theorem More.of_drawn {w w' : World} (h : More w w') {n : Nat} (hn : w.drawn ≤ n) : More w { w' with drawn := n } := ⟨h.size, fun b hb => h.same b hb, h.rest.1, h.rest.2.1, h.rest.2.2.1, hn⟩

theorem blk_push (w : World) (c : Array Value) (e : TypeId) : Blk { w with heap := w.heap.push (.cells c e) } w.heap.size c :=
 ⟨e, (0, 0), by simp, fun o _ => by simp⟩

theorem Rel_more {w w' : World} (hm : More w w') {t : Ty} {x : T t} {cs : List Value} {F : List Nat} (hB : ∀ b, B b → b < w.heap.size) (h : Rel w B t x cs F) : Rel w' B t x cs F :=
 Rel_same (fun b hb => hm.same b (hB b hb)) (fun _ h => h) t x cs F h (fun b hb => hm.same b (Rel_lt t x cs F h b hb))

theorem Inv.newPl (h : Inv X st a w B G) {n : Nat} {d : Dyn} {w' : World} {g : PG} (hsz : w.heap.size ≤ w'.heap.size) (hrest : w'.tape = w.tape ∧ w'.os = w.os ∧ w'.output = w.output ∧ (X.dr = true → w.drawn ≤ w'.drawn))
  (hsame : ∀ b, b < w.heap.size → b ∉ g.blocks → Same w w' b) (hn : n % 2 = 0)
  (hpl : PlR w' B g d) (hnd : g.blocks.Nodup) (hsep : ∀ b ∈ g.blocks, ¬ B b ∧ (b < X.w0.heap.size → b ∈ X.ob))
  (hap : ∀ b ∈ g.blocks, ∀ m d', lk m st.pl = some d' → b ∉ (G m).blocks) : Inv X (applyU [(n, .new d)] st) a w' B (setG G n g) := by
 have hlk : ∀ m d', lk m (applyU [(n, .new d)] st).pl = some d' → (m = n ∧ d' = d) ∨ (m ≠ n ∧ lk m st.pl = some d') := by
  intro m d' hm
  have hm : lk m (Pv.put n d st.pl) = some d' := hm
  rw [lk_put] at hm
  split at hm
  ·rename_i e; exact .inl ⟨e, (Option.some.inj hm).symm⟩
  ·rename_i e; exact .inr ⟨e, hm⟩
 have hBs : ∀ b, B b → Same w w' b := fun b hb => hsame b (h.bsz b hb) (fun hg => (hsep b hg).1 hb)
 have hold : ∀ m d', lk m st.pl = some d' → ∀ b ∈ (G m).blocks, Same w w' b := by
  intro m d' hm b hb
  refine hsame b ?_ (fun hg => hap b hg m d' hm hb)
  obtain ⟨hR, hA⟩ := h.pl m d' hm
  unfold PG.blocks at hb
  cases hg : (G m).addr with
  | none => rw [hg] at hb; exact Rel_lt _ _ _ _ hR _ hb
  | some q =>
   rw [hg] at hb hA
   rcases List.mem_cons.1 hb with hb | hb
   ·obtain ⟨_, c, hc⟩ := hA
    rw [hb]; exact hc.lt
   ·exact Rel_lt _ _ _ _ hR _ hb
 refine h.move [(n, .new d)] w' B (setG G n g) hsz hrest (fun b hb => ⟨hBs b hb, hb⟩) (fun b hb => Nat.lt_of_lt_of_le (h.bsz b hb) hsz) (fun _ _ h => .inl h)
  (fun b hb hno => hsame b (Nat.lt_of_lt_of_le hb h.size) (fun hg => hno ((hsep b hg).2 hb))) ?_ ?_ ?_ ?_ ?_ ?_ (by simp [Upd.isDel])
 ·intro m d' hd'
  rcases hlk m d' hd' with ⟨rfl, rfl⟩ | ⟨hne, hd'⟩
  ·rw [setG_same]; exact ⟨hpl, hnd, hsep⟩
  ·rw [setG_ne G g hne]
   obtain ⟨h1, h2⟩ := h.pl m d' hd'
   refine ⟨⟨Rel_same hBs (fun _ h => h) _ _ _ _ h1 (fun b hb => hold m d' hd' b (PG.mem_blocks hb)), ?_⟩, h.sep m d' hd'⟩
   split
   ·trivial
   ·rename_i ad hgm
    rw [hgm] at h2
    obtain ⟨k1, c2, k2⟩ := h2
    have hs := hold m d' hd' ad.1 (by unfold PG.blocks; rw [hgm]; simp)
    exact ⟨k1.same hs, c2, k2.same hs⟩
 ·intro m m' d1 d2 h1 h2 hne b hb hb'
  rcases hlk m d1 h1 with ⟨e1, _⟩ | ⟨hne1, k1⟩
  ·rcases hlk m' d2 h2 with ⟨e2, _⟩ | ⟨hne2, k2⟩
   ·exact hne (e1.trans e2.symm)
   ·rw [e1, setG_same] at hb; rw [setG_ne G g hne2] at hb'
    exact hap b hb m' d2 k2 hb'
  ·rw [setG_ne G g hne1] at hb
   rcases hlk m' d2 h2 with ⟨e2, _⟩ | ⟨hne2, k2⟩
   ·rw [e2, setG_same] at hb'
    exact hap b hb' m d1 k1 hb
   ·rw [setG_ne G g hne2] at hb'
    exact h.apart m m' d1 d2 k1 k2 hne b hb hb'
 ·intro m hmn
  exact setG_ne G g (by simpa [updNames] using hmn)
 ·intro u hu
  have : u = (n, .new d) := by simpa using hu
  subst this
  exact .inl rfl
 ·intro k d' hk
  rcases hlk _ d' hk with ⟨e, _⟩ | ⟨hne, hk⟩
  ·rw [← e] at hn; unfold objName at hn; omega
  ·rw [setG_ne G g hne]; exact h.obj k d' hk
 ·intro k b o s ho i _
  refine (hsame b (Nat.lt_of_lt_of_le (h.oaLt k b o s ho) h.size) (fun hg => ?_)).cell i
  obtain ⟨d2, hd2⟩ := h.objL k b o s ho
  obtain ⟨b3, o3, s3, h1, h2, _⟩ := h.obj k d2 hd2
  rw [ho] at h1
  simp only [Option.some.injEq, Prod.mk.injEq] at h1
  obtain ⟨rfl, rfl, rfl⟩ := h1
  exact hap b hg _ d2 hd2 (by unfold PG.blocks; rw [h2]; simp)

theorem nameOf_even (dst i : Nat) : nameOf dst i % 2 = 0 := by unfold nameOf; omega

theorem loc_new {tv : Nat → Value} {st : St} {n b o : Nat} {d : Dyn} {g : PG} (hg : g.addr = some (b, o)) :
  EVR tv w B (setG G n g) (look (applyU [(n, .new d)] st)) (.loc n []) (.pointer (some ⟨b, o, none⟩)) := by
 simp only [EVR]
 refine ⟨d, 0, d.ty, b, o, ?_, rfl, by rw [setG_same]; exact hg, rfl⟩
 show lk n (put n d st.pl) = _
 rw [lk_put]; simp

theorem at_new {tv : Nat → Value} {st : St} {n : Nat} {d : Dyn} {g : PG} {v : Value} (hc : g.cells = v.cells.toList) (hl : v.cells.toList.length = d.ty.size) (ha : Value.agg? v = d.ty.isAgg) :
  EVR tv w B (setG G n g) (look (applyU [(n, .new d)] st)) (.at_ n []) v := by
 simp only [EVR]
 refine ⟨d, 0, d.ty, ?_, rfl, ?_, ha⟩
 ·show lk n (put n d st.pl) = _
  rw [lk_put]; simp
 ·rw [setG_same, hc, List.drop_zero, ← hl, List.take_length]

theorem heap_fresh (h : Inv X st a w B G) {m : Nat} {d' : Dyn} (hm : lk m st.pl = some d') : w.heap.size ∉ (G m).blocks := by
 intro hb
 obtain ⟨hR, hA⟩ := h.pl m d' hm
 unfold PG.blocks at hb
 cases hg : (G m).addr with
 | none =>
  rw [hg] at hb
  exact Nat.lt_irrefl _ (Rel_lt _ _ _ _ hR _ hb)
 | some q =>
  rw [hg] at hb hA
  rcases List.mem_cons.1 hb with hb | hb
  ·obtain ⟨_, c, hc⟩ := hA
   have := hc.lt
   omega
  ·exact Nat.lt_irrefl _ (Rel_lt _ _ _ _ hR _ hb)

theorem Inv.newVar (h : Inv X st a w B G) {n : Nat} (hn : n % 2 = 0) {d : Dyn} {c : Array Value} {F : List Nat} (e : TypeId) (hR : Rel w B d.ty d.val c.toList F) (hF : F.Nodup)
  (hs : ∀ b ∈ F, ¬ B b ∧ b < w.heap.size ∧ (b < X.w0.heap.size → b ∈ X.ob)) (hap : ∀ b ∈ F, ∀ m d, lk m st.pl = some d → b ∉ (G m).blocks) :
  Inv X (applyU [(n, .new d)] st) a { w with heap := w.heap.push (.cells c e) } B (setG G n ⟨some (w.heap.size, 0), c.toList, F⟩) := by
 refine h.newPl (more_push w _).size (more_push w _).rst (fun b hb _ => (more_push w _).same b hb) hn ⟨Rel_more (more_push w _) h.bsz hR, ?_⟩ ?_ ?_ ?_
 ·exact ⟨Rows_of_heap (blk_push w c e) (fun i v hi => by simpa using hi), c, blk_push w c e⟩
 ·exact List.nodup_cons.2 ⟨fun hb => Nat.lt_irrefl _ (hs _ hb).2.1, hF⟩
 ·intro b hb
  rcases List.mem_cons.1 hb with rfl | hb
  ·exact ⟨fun hB => Nat.lt_irrefl _ (h.bsz _ hB), fun hlt => absurd (Nat.lt_of_lt_of_le hlt h.size) (Nat.lt_irrefl _)⟩
  ·exact ⟨(hs b hb).1, (hs b hb).2.2⟩
 ·intro b hb m d' hm
  rcases List.mem_cons.1 hb with rfl | hb
  ·exact heap_fresh h hm
  ·exact hap b hb m d' hm

theorem run_zero {P : Program} {t : TypeId} {z : Value} (hz : (P.info? t).bind (·.zero) = some z) (w : World) : (zeroValue t).run P w = .ok z w := by
 cases hi : P.info? t with
 | none => rw [hi] at hz; cases hz
 | some i =>
  rw [hi] at hz
  have hz : i.zero = some z := hz
  simp [zeroValue, typeInfo, hi, hz]

theorem op_alloc (h : Inv X st a w B G) {o : Oper} {t : TypeId} (ho : o.op = .alloc t) {Γ : Nat → Option CSem} {dst : Nat} {r : ORes} (he : evalOp X.P Γ (look st) E dst (.alloc t) o.type = some r) {x : r.α} (_hx : r.run = some x) :
  Does X st a w o (r.out x).ev (r.out x).upd := by
 simp only [evalOp] at he
 obtain ⟨d, hd, rfl⟩ := Option.map_eq_some_iff.1 he
 obtain ⟨hp, z, hz, hR⟩ := zeroD_ok (w := w) (B := B) hd
 refine Does.value (w' := { w with heap := w.heap.push (.cells z.cells t) }) (v := .pointer (some ⟨w.heap.size, 0, none⟩)) ?_
  (h.newVar (nameOf_even dst 0) t hR (by simp) (by simp) (by simp)) (loc_new rfl)
 simp [execOp, ho, Instr.alloc, run_zero hz, Go.newVar, Go.newRow]

theorem op_box (h : Inv X st a w B G) (hE : EOk X st a w B G E) {o : Oper} {t : TypeId} {z : Operand} (ho : o.op = .box t z) {Γ : Nat → Option CSem} {dst : Nat} {r : ORes} (he : evalOp X.P Γ (look st) E dst (.box t z) o.type = some r) {x : r.α} (hx : r.run = some x) :
  Does X st a w o (r.out x).ev (r.out x).upd := by
 simp only [evalOp] at he
 obtain ⟨ez, hez, he⟩ := bind_some he
 obtain ⟨ez', hfz, he⟩ := bind_some he
 obtain ⟨⟨y, U⟩, hy, he⟩ := bind_some he
 split at he
 ·obtain rfl := Option.some.inj he
  obtain ⟨B', G', F, hI, hv, hB, hF, hFs, hFap, _, _⟩ := mv_ok h (fix_ok (hE z ez hez) hfz) hy hx
  have hnew := hI.newVar (nameOf_even dst 0) (d := ⟨y.ty, x⟩) t hv.1 hF hFs hFap
  rw [← applyU_append] at hnew
  have hloc := loc_new (w := { w with heap := w.heap.push (.cells (a.eval z).cells t) }) (B := B') (G := G') (tv := tv a) (st := applyU U st) (n := nameOf dst 0) (d := ⟨y.ty, x⟩) (g := ⟨some (w.heap.size, 0), (a.eval z).cells.toList, F⟩) rfl
  rw [← applyU_append] at hloc
  refine Does.value (v := .pointer (some ⟨w.heap.size, 0, none⟩)) ?_ hnew hloc
  simp [execOp, ho, Instr.box, Go.newVar, Go.newRow]
 ·cases he

theorem Inv.newRow (h : Inv X st a w B G) {n : Nat} (hn : n % 2 = 0) {e : Ty} (hp : e.pure = true) {xs : List (T e)} {c : Array Value} {cap : Nat} (et : TypeId) (hR : RelL (Rel w B e) xs (c.toList.take (xs.length * e.size)) [])
  (hcap : xs.length ≤ cap) (hmax : cap ≤ maxLen) (hsz : c.size = cap * e.size) (w' : World) (hw : w' = { w with heap := w.heap.push (.cells c et), drawn := w'.drawn }) (hdr : w.drawn ≤ w'.drawn) :
  ∃ g, Inv X (applyU [(n, .new ⟨.own e, xs⟩)] st) a w' B (setG G n g) ∧ EVR (tv a) w' B (setG G n g) (look (applyU [(n, .new ⟨.own e, xs⟩)] st)) (.at_ n []) (.slice (some ⟨w.heap.size, 0, none⟩) xs.length cap) := by
 refine ⟨⟨none, [.slice (some ⟨w.heap.size, 0, none⟩) xs.length cap], [w.heap.size]⟩, ?_, at_new (by simp [Value.cells]) (by simp [Value.cells, Ty.size]) rfl⟩
 have hm : More w w' := by rw [hw]; exact (more_push w _).of_drawn hdr
 refine h.newPl hm.size hm.rst (fun b hb _ => hm.same b hb) hn ⟨?_, trivial⟩ (by simp [PG.blocks]) ?_ ?_
 ·refine ⟨_, rfl, .inr ⟨w.heap.size, cap, c, [], rfl, hcap, hmax, ?_, hsz, ?_, rfl⟩⟩
  ·rw [hw]; exact blk_push w c et
  ·exact RelL_mono (fun x cs F hx => Rel_more hm h.bsz hx) _ _ _ hR
 ·intro b hb
  have : b = w.heap.size := by simpa [PG.blocks] using hb
  subst this
  exact ⟨fun hB => Nat.lt_irrefl _ (h.bsz _ hB), fun hlt => absurd (Nat.lt_of_lt_of_le hlt h.size) (Nat.lt_irrefl _)⟩
 ·intro b hb m d' hm
  have : b = w.heap.size := by simpa [PG.blocks] using hb
  subst this
  exact heap_fresh h hm

theorem Inv.newRowF (h : Inv X st a w B G) {n : Nat} (hn : n % 2 = 0) {e : Ty} (hp : e.pure = true) {xs : List (T e)} {c : Array Value} {cap : Nat} (et : TypeId) (hR : RelL (Rel w B e) xs (c.toList.take (xs.length * e.size)) [])
  (hcap : xs.length ≤ cap) (hmax : cap ≤ maxLen) (hsz : c.size = cap * e.size) (fr : Nat × Nat) (hfr : ∀ o, o < c.size → (decide (fr.1 ≤ o) && decide (o < fr.2)) = false) (w' : World) (hw : w' = { w with heap := w.heap.push (.cells c et fr), drawn := w'.drawn }) (hdr : w.drawn ≤ w'.drawn) :
  ∃ g, Inv X (applyU [(n, .new ⟨.own e, xs⟩)] st) a w' B (setG G n g) ∧ EVR (tv a) w' B (setG G n g) (look (applyU [(n, .new ⟨.own e, xs⟩)] st)) (.at_ n []) (.slice (some ⟨w.heap.size, 0, none⟩) xs.length cap) := by
 refine ⟨⟨none, [.slice (some ⟨w.heap.size, 0, none⟩) xs.length cap], [w.heap.size]⟩, ?_, at_new (by simp [Value.cells]) (by simp [Value.cells, Ty.size]) rfl⟩
 have hm : More w w' := by rw [hw]; exact (more_push w _).of_drawn hdr
 refine h.newPl hm.size hm.rst (fun b hb _ => hm.same b hb) hn ⟨?_, trivial⟩ (by simp [PG.blocks]) ?_ ?_
 ·refine ⟨_, rfl, .inr ⟨w.heap.size, cap, c, [], rfl, hcap, hmax, ?_, hsz, ?_, rfl⟩⟩
  ·rw [hw]; exact ⟨et, fr, by simp, hfr⟩
  ·exact RelL_mono (fun x cs F hx => Rel_more hm h.bsz hx) _ _ _ hR
 ·intro b hb
  have : b = w.heap.size := by simpa [PG.blocks] using hb
  subst this
  exact ⟨fun hB => Nat.lt_irrefl _ (h.bsz _ hB), fun hlt => absurd (Nat.lt_of_lt_of_le hlt h.size) (Nat.lt_irrefl _)⟩
 ·intro b hb m d' hm
  have : b = w.heap.size := by simpa [PG.blocks] using hb
  subst this
  exact heap_fresh h hm

end
end
end Go.Pv

namespace Go.Pv
noncomputable section
universe u v

theorem putCells_list : ∀ (l : List Value) (k off : Nat) (cells : Array Value) (A M Z : List Value), cells.toList = A ++ M ++ Z → A.length = off + k → M.length = l.length →
  ((l.zipIdx k).foldl (fun cs x => cs.setIfInBounds (off + x.2) x.1) cells).toList = A ++ l ++ Z
 | [], k, off, cells, A, M, Z, h, hA, hM => by
  have : M = [] := List.eq_nil_of_length_eq_zero hM
  subst this
  simpa using h
 | c :: l, k, off, cells, A, M, Z, h, hA, hM => by
  cases M with
  | nil => simp at hM
  | cons m M =>
   simp only [List.zipIdx_cons, List.foldl_cons]
   rw [putCells_list l (k + 1) off _ (A ++ [c]) M Z ?_ (by simp; omega) (by simpa using hM)]
   ·simp
   ·rw [Array.toList_setIfInBounds, h, ← hA]
    simp [List.set_append]

theorem putCells (v : Array Value) (off : Nat) (cells : Array Value) (A M Z : List Value) (h : cells.toList = A ++ M ++ Z) (hA : A.length = off) (hM : M.length = v.size) :
  (v.zipIdx.foldl (fun cs (x : Value × Nat) => cs.setIfInBounds (off + x.2) x.1) cells).toList = A ++ v.toList ++ Z := by
 rw [← Array.foldl_toList, Array.toList_zipIdx]
 exact putCells_list v.toList 0 off cells A M Z h hA (by simpa using hM)

theorem seg_split {ss : List (List Value)} {i : Nat} {s : List Value} (h : ss[i]? = some s) : ss.flatten = (ss.take i).flatten ++ s ++ (ss.drop (i + 1)).flatten := by
 obtain ⟨hi, hs⟩ := List.getElem?_eq_some_iff.1 h
 conv => lhs; rw [← List.take_append_drop i ss, List.drop_eq_getElem_cons hi, hs]
 simp

theorem seg_set {ss : List (List Value)} {i : Nat} {s l : List Value} (h : ss[i]? = some s) : (ss.set i l).flatten = (ss.take i).flatten ++ l ++ (ss.drop (i + 1)).flatten := by
 obtain ⟨hi, hs⟩ := List.getElem?_eq_some_iff.1 h
 rw [List.set_eq_take_append_cons_drop, if_pos hi]
 simp

theorem seg_len {ss : List (List Value)} {i j : Nat} {s l : List Value} (h : ss[i]? = some s) (hl : l.length = s.length) : ((ss.set i l).take j).flatten.length = (ss.take j).flatten.length := by
 simp only [List.length_flatten]
 congr 1
 apply List.ext_getElem?
 intro k
 simp only [List.getElem?_map, List.getElem?_take, List.getElem?_set]
 by_cases hk : k < j
 ·simp only [hk, if_true]
  by_cases e : i = k
  ·subst e
   obtain ⟨hi, hs⟩ := List.getElem?_eq_some_iff.1 h
   simp [hi, hs, hl]
  ·simp [e]
 ·simp [hk]

theorem fill_segs (place : Nat → Option (Nat × Nat)) : ∀ (parts : List (Nat × Value)) (cells : Array Value) (ss : List (List Value)), cells.toList = ss.flatten →
  (∀ q ∈ parts, ∃ s, ss[q.1]? = some s ∧ place q.1 = some ((ss.take q.1).flatten.length, s.length) ∧ q.2.cells.size = s.length) →
  ∃ cells', Instr.fill place cells parts = some cells' ∧ cells'.toList = (parts.foldl (fun ss q => ss.set q.1 q.2.cells.toList) ss).flatten
 | [], cells, ss, h, _ => ⟨cells, rfl, h⟩
 | (i, v) :: parts, cells, ss, h, hp => by
  obtain ⟨s, hs, hpl, hv⟩ := hp (i, v) (by simp)
  simp only at hs hpl hv
  have hsp := seg_split hs
  have hsz : cells.size = ss.flatten.length := by rw [← h]; simp
  have hput := putCells v.cells (ss.take i).flatten.length cells (ss.take i).flatten s (ss.drop (i + 1)).flatten (by rw [h, hsp]) rfl hv.symm
  rw [← seg_set hs] at hput
  obtain ⟨cells', h1, h2⟩ := fill_segs place parts _ (ss.set i v.cells.toList) hput (by
   intro q hq
   obtain ⟨s', hs', hpl', hv'⟩ := hp q (by simp [hq])
   by_cases e : i = q.1
   ·have hs2 : ss[q.1]? = some s := e ▸ hs
    rw [hs2] at hs'
    obtain rfl := Option.some.inj hs'
    have hi := (List.getElem?_eq_some_iff.1 hs).1
    refine ⟨v.cells.toList, by rw [← e]; simp [hi], ?_, by simpa [hv] using hv'⟩
    rw [seg_len hs (by simpa using hv), hpl', show s.length = v.cells.toList.length by simpa using hv.symm]
   ·refine ⟨s', by rw [List.getElem?_set_ne e]; exact hs', ?_, hv'⟩
    rw [seg_len hs (by simpa using hv), hpl'])
  refine ⟨cells', ?_, h2⟩
  rw [← h1]
  have hlen : (ss.take i).flatten.length + s.length ≤ cells.size := by rw [hsz, hsp, List.length_append, List.length_append]; omega
  generalize (ss.take i).flatten.length = off at *
  show (match place i with | none => none | some (off, size) => _) = _
  rw [hpl]
  show (if _ then none else _) = _
  rw [if_neg (by simp [hv]; omega)]

theorem segs_get : ∀ (parts : List (Nat × Value)) (ss : List (List Value)) (i : Nat), (∀ q ∈ parts, q.1 < ss.length) → (parts.map (·.1)).Nodup →
  (parts.foldl (fun ss q => ss.set q.1 q.2.cells.toList) ss)[i]? = match lk i parts with | some v => some v.cells.toList | none => ss[i]?
 | [], _, _, _, _ => rfl
 | (j, v) :: parts, ss, i, hl, hn => by
  simp only [List.map_cons, List.nodup_cons] at hn
  simp only [List.foldl_cons]
  rw [segs_get parts (ss.set j v.cells.toList) i (fun q hq => by simpa using hl q (by simp [hq])) hn.2]
  simp only [lk]
  by_cases e : i = j
  ·subst e
   have hnone : lk i parts = none := by
    have key : ∀ (l : List (Nat × Value)), i ∉ l.map (·.1) → lk i l = none := by
     intro l
     induction l with
     | nil => intro _; rfl
     | cons q l ih =>
      obtain ⟨k, u⟩ := q
      intro h
      simp only [List.map_cons, List.mem_cons, not_or] at h
      simp only [lk, beq_ne h.1, cond_false]
      exact ih h.2
    exact key parts hn.1
   rw [hnone]
   have := hl (i, v) (by simp)
   simp at this
   simp [this]
  ·have : Nat.beq i j = false := beq_ne e
   simp only [this, cond_false]
   cases lk i parts with
   | some u => rfl
   | none => simp only []; rw [List.getElem?_set_ne (Ne.symm e)]

section
variable {X : Cx} {st : St} {a : Act} {w : World} {B : Nat → Prop} {G : Nat → PG} {E : Operand → Option EV}

theorem take_congr {L L' : Look} {e : EV} (h : ∀ n, e.hits n false = true → L' n = L n) : e.take L' = e.take L := by
 cases e with
 | at_ n p => simp only [EV.take]; rw [h n (by simp [EV.hits])]
 | _ => rfl

theorem takeAll_congr {L L' : Look} : ∀ (l : List (Nat × EV)), (∀ q ∈ l, ∀ n, q.2.hits n false = true → L' n = L n) → takeAll L' l = takeAll L l
 | [], _ => rfl
 | (i, x) :: r, h => by
  simp only [takeAll]
  rw [take_congr (fun n hn => h (i, x) (by simp) n hn), takeAll_congr r (fun q hq => h q (by simp [hq]))]

def Prs (tv : Nat → Value) (w : World) (B : Nat → Prop) (G : Nat → PG) (L : Look) : List (Nat × EV) → List (Nat × Value) → Prop
 | [], vs => vs = []
 | (i, e) :: l, vs => ∃ v r, vs = (i, v) :: r ∧ EVR tv w B G L e v ∧ Prs tv w B G L l r

def Dat (w : World) (B : Nat → Prop) : List (Nat × Dyn) → List (Nat × Value) → Prop
 | [], vs => vs = []
 | (i, d) :: l, vs => ∃ v r, vs = (i, v) :: r ∧ d.ty.pure = true ∧ VR w B d.ty d.val v [] ∧ Dat w B l r

theorem Prs.of {tv : Nat → Value} {B' : Nat → Prop} {G' : Nat → PG} {L L' : Look} (h : ∀ e v, EVR tv w B G L e v → EVR tv w B' G' L' e v) : ∀ l vs, Prs tv w B G L l vs → Prs tv w B' G' L' l vs
 | [], _, hp => hp
 | (i, e) :: l, _, ⟨v, r, hv, he, hp⟩ => ⟨v, r, hv, h e v he, Prs.of h l r hp⟩

theorem takeAll_ok : ∀ (l : List (Nat × EV)) (vs : List (Nat × Value)) (st : St) (B : Nat → Prop) (G : Nat → PG) (r : List (Nat × Dyn)) (U : Upds), Inv X st a w B G → Prs (tv a) w B G (look st) l vs →
  takeAll (look st) l = some (r, U) → ∃ B' G', Inv X (applyU U st) a w B' G' ∧ Dat w B' r vs ∧ (∀ b, B b → B' b) ∧
   ∀ e' v', EVR (tv a) w B G (look st) e' v' → EVR (tv a) w B' G' (look (applyU U st)) e' v'
 | [], vs, st, B, G, r, U, h, hp, ht => by
  simp only [takeAll, Option.some.injEq, Prod.mk.injEq] at ht
  obtain ⟨rfl, rfl⟩ := ht
  exact ⟨B, G, h, hp, fun _ h => h, fun _ _ h => h⟩
 | (i, x) :: l, vs, st, B, G, r, U, h, hp, ht => by
  simp only [takeAll] at ht
  obtain ⟨⟨y, U1⟩, hy, ht⟩ := bind_some ht
  obtain ⟨v, rv, rfl, he, hp⟩ := hp
  split at ht
  ·cases ht
  ·rename_i hno
   split at ht
   ·rename_i t x1 heq
    have heq : y = ⟨t, some x1⟩ := heq
    subst heq
    obtain ⟨⟨r2, U2⟩, hr2, hz⟩ := Option.map_eq_some_iff.1 ht
    simp only [Prod.mk.injEq] at hz
    obtain ⟨rfl, rfl⟩ := hz
    obtain ⟨B1, G1, hI1, hpu, hv1, hB1, _, hE1⟩ := take_ok h he hy rfl
    have hcong : takeAll (look (applyU U1 st)) l = takeAll (look st) l := by
     refine takeAll_congr l fun q hq n hn => ?_
     show lk n (applyU U1 st).pl = lk n st.pl
     refine applyU_pl_other U1 st n fun hm => ?_
     obtain ⟨u, hu, rfl⟩ := List.mem_map.1 hm
     refine hno ?_
     rw [List.any_eq_true]
     exact ⟨u, hu, List.any_eq_true.2 ⟨q, hq, hn⟩⟩
    obtain ⟨B2, G2, hI2, hd2, hB2, hE2⟩ := takeAll_ok l rv (applyU U1 st) B1 G1 r2 U2 hI1 (Prs.of hE1 l rv hp) (by rw [hcong]; exact hr2)
    refine ⟨B2, G2, by rw [applyU_append]; exact hI2, ⟨v, rv, rfl, hpu, hv1.same (fun _ _ => rfl) hB2 (by simp), hd2⟩, fun b hb => hB2 b (hB1 b hb), fun e' v' h' => ?_⟩
    rw [applyU_append]
    exact hE2 e' v' (hE1 e' v' h')
   ·cases ht

def DatF (w : World) (B : Nat → Prop) : List (Nat × Dyn) → List (Nat × Value) → List (List Nat) → Prop
 | [], vs, Fs => vs = [] ∧ Fs = []
 | (i, d) :: l, vs, Fs => ∃ v r F Fr, vs = (i, v) :: r ∧ Fs = F :: Fr ∧ VR w B d.ty d.val v F ∧ DatF w B l r Fr

def ftF : Nat → List (Nat × Dyn) → List (List Nat) → List Nat
 | i, q :: l, F :: Fs => bif Nat.beq i q.1 then F else ftF i l Fs
 | _, _, _ => []

theorem ftF_mem {b i : Nat} : ∀ {r : List (Nat × Dyn)} {Fs : List (List Nat)}, b ∈ ftF i r Fs → b ∈ Fs.flatten
 | [], _, h => by simp [ftF] at h
 | _ :: _, [], h => by simp [ftF] at h
 | q :: r, F :: Fs, h => by
  simp only [ftF] at h
  rw [List.flatten_cons, List.mem_append]
  cases hb : Nat.beq i q.1 with
  | true => rw [hb] at h; exact .inl h
  | false => rw [hb] at h; exact .inr (ftF_mem h)

theorem ftF_nodup {i : Nat} : ∀ {r : List (Nat × Dyn)} {Fs : List (List Nat)}, Fs.flatten.Nodup → (ftF i r Fs).Nodup
 | [], _, _ => by simp [ftF]
 | _ :: _, [], _ => by simp [ftF]
 | q :: r, F :: Fs, h => by
  rw [List.flatten_cons] at h
  have h := List.nodup_append.1 h
  simp only [ftF]
  cases hb : Nat.beq i q.1 with
  | true => exact h.1
  | false => exact ftF_nodup h.2.1

theorem ftF_disj {i j b : Nat} (hij : i ≠ j) : ∀ {r : List (Nat × Dyn)} {Fs : List (List Nat)}, Fs.flatten.Nodup → b ∈ ftF i r Fs → b ∉ ftF j r Fs
 | [], _, _, h => by simp [ftF] at h
 | _ :: _, [], _, h => by simp [ftF] at h
 | q :: r, F :: Fs, hn, h => by
  rw [List.flatten_cons] at hn
  have hn := List.nodup_append.1 hn
  simp only [ftF] at h ⊢
  cases hb : Nat.beq i q.1 with
  | true =>
   rw [hb] at h
   cases hc : Nat.beq j q.1 with
   | true => exact absurd ((Nat.eq_of_beq_eq_true hb).trans (Nat.eq_of_beq_eq_true hc).symm) hij
   | false => exact fun h2 => hn.2.2 b h b (ftF_mem h2) rfl
  | false =>
   rw [hb] at h
   cases hc : Nat.beq j q.1 with
   | true => exact fun h2 => hn.2.2 b h2 b (ftF_mem h) rfl
   | false => exact ftF_disj hij hn.2.1 h

def fpF (φ : Nat → List Nat) : Nat → Nat → List Nat
 | _, 0 => []
 | i, n + 1 => φ i ++ fpF φ (i + 1) n

theorem fpF_mem {φ : Nat → List Nat} {b : Nat} : ∀ {n i : Nat}, b ∈ fpF φ i n → ∃ j, i ≤ j ∧ b ∈ φ j
 | 0, _, h => by simp [fpF] at h
 | n + 1, i, h => by
  simp only [fpF, List.mem_append] at h
  rcases h with h | h
  ·exact ⟨i, Nat.le_refl _, h⟩
  ·obtain ⟨j, hj, hb⟩ := fpF_mem h
   exact ⟨j, by omega, hb⟩

theorem fpF_nodup {φ : Nat → List Nat} (h1 : ∀ i, (φ i).Nodup) (h2 : ∀ i j, i ≠ j → ∀ b ∈ φ i, b ∉ φ j) : ∀ n i, (fpF φ i n).Nodup
 | 0, _ => by simp [fpF]
 | n + 1, i => by
  simp only [fpF]
  refine List.nodup_append.2 ⟨h1 i, fpF_nodup h1 h2 n (i + 1), fun b hb c hc e => ?_⟩
  subst e
  obtain ⟨j, hj, hb2⟩ := fpF_mem hc
  exact h2 i j (by omega) b hb hb2

theorem DatF.lk {r : List (Nat × Dyn)} {vs : List (Nat × Value)} {Fs : List (List Nat)} (h : DatF w B r vs Fs) (i : Nat) : match Pv.lk i r with
  | some d => ∃ v, Pv.lk i vs = some v ∧ VR w B d.ty d.val v (ftF i r Fs)
  | none => Pv.lk i vs = none ∧ ftF i r Fs = [] := by
 induction r generalizing vs Fs with
 | nil => obtain ⟨h, h2⟩ := h; subst h; subst h2; exact ⟨rfl, rfl⟩
 | cons q r ih =>
  obtain ⟨j, d⟩ := q
  obtain ⟨v, rv, F, Fr, rfl, rfl, hv, h⟩ := h
  have ih := ih h
  simp only [Pv.lk, ftF]
  cases hb : Nat.beq i j with
  | true => exact ⟨v, rfl, hv⟩
  | false => exact ih

theorem DatF.fst {r : List (Nat × Dyn)} {vs : List (Nat × Value)} {Fs : List (List Nat)} (h : DatF w B r vs Fs) : vs.map (·.1) = r.map (·.1) := by
 induction r generalizing vs Fs with
 | nil => obtain ⟨h, _⟩ := h; subst h; rfl
 | cons q r ih =>
  obtain ⟨v, rv, F, Fr, rfl, rfl, hv, h⟩ := h
  simp [ih h]

theorem DatF.mem {r : List (Nat × Dyn)} {vs : List (Nat × Value)} {Fs : List (List Nat)} (h : DatF w B r vs Fs) : ∀ q ∈ vs, ∃ d F, (q.1, d) ∈ r ∧ VR w B d.ty d.val q.2 F := by
 induction r generalizing vs Fs with
 | nil => obtain ⟨h, _⟩ := h; subst h; intro q hq; cases hq
 | cons p r ih =>
  obtain ⟨j, d⟩ := p
  obtain ⟨v, rv, F, Fr, rfl, rfl, hv, h⟩ := h
  intro q hq
  rcases List.mem_cons.1 hq with rfl | hq
  ·exact ⟨d, F, by simp, hv⟩
  ·obtain ⟨d', F', h1, h2⟩ := ih h q hq
   exact ⟨d', F', by simp [h1], h2⟩

theorem mv_congr {L L' : Look} {e : EV} (h : ∀ n, e.hits n true = true → L' n = L n) : e.mv L' = e.mv L := by
 cases e with
 | at_ n p =>
  have hn := h n (by simp [EV.hits])
  cases p with
  | nil => simp only [EV.mv]; rw [hn]
  | cons s p => simp only [EV.mv, EV.take]; rw [hn]
 | loc n p =>
  have hn := h n (by simp [EV.hits])
  cases p with
  | nil => simp only [EV.mv]; rw [hn]
  | cons s p => rfl
 | _ => rfl

theorem part_congr {L L' : Look} {e : EV} (h : ∀ n, e.hits n true = true → L' n = L n) : e.part L' = e.part L := by
 unfold EV.part
 have ht : e.take L' = e.take L := by
  cases e with
  | at_ n p => simp only [EV.take]; rw [h n (by simp [EV.hits])]
  | _ => rfl
 rw [mv_congr h, ht]

theorem mvAll_congr {L L' : Look} : ∀ (l : List (Nat × EV)), (∀ q ∈ l, ∀ n, q.2.hits n true = true → L' n = L n) → mvAll L' l = mvAll L l
 | [], _ => rfl
 | (i, x) :: r, h => by
  simp only [mvAll]
  rw [part_congr (fun n hn => h (i, x) (by simp) n hn), mvAll_congr r (fun q hq => h q (by simp [hq]))]

theorem Prs.ofH {tv : Nat → Value} {B' : Nat → Prop} {G' : Nat → PG} {L L' : Look} {ns : List Nat} (h : ∀ e v, EVR tv w B G L e v → (∀ m ∈ ns, e.hits m true = false) → EVR tv w B' G' L' e v) : ∀ l vs, (∀ q ∈ l, ∀ m ∈ ns, q.2.hits m true = false) → Prs tv w B G L l vs → Prs tv w B' G' L' l vs
 | [], _, _, hp => hp
 | (i, e) :: l, _, hh, ⟨v, r, hv, he, hp⟩ => ⟨v, r, hv, h e v he (hh (i, e) (by simp)), Prs.ofH h l r (fun q hq => hh q (by simp [hq])) hp⟩

theorem mvAll_ok : ∀ (l : List (Nat × EV)) (vs : List (Nat × Value)) (st : St) (B : Nat → Prop) (G : Nat → PG) (r : List (Nat × Dyn)) (U : Upds), Inv X st a w B G → Prs (tv a) w B G (look st) l vs →
  mvAll (look st) l = some (r, U) → ∃ B' G' Fs, Inv X (applyU U st) a w B' G' ∧ DatF w B' r vs Fs ∧ (∀ b, B b → B' b) ∧ Fs.flatten.Nodup ∧ (∀ b ∈ Fs.flatten, ¬ B' b ∧ b < w.heap.size ∧ (b < X.w0.heap.size → b ∈ X.ob)) ∧
   (∀ b ∈ Fs.flatten, ∀ m d, Pv.lk m (applyU U st).pl = some d → b ∉ (G' m).blocks) ∧ From st G B (applyU U st) G' B' ∧ ∀ b ∈ Fs.flatten, ∃ n d, Pv.lk n st.pl = some d ∧ b ∈ (G n).blocks
 | [], vs, st, B, G, r, U, h, hp, ht => by
  simp only [mvAll, Option.some.injEq, Prod.mk.injEq] at ht
  obtain ⟨rfl, rfl⟩ := ht
  exact ⟨B, G, [], h, ⟨hp, rfl⟩, fun _ h => h, by simp, by simp, by simp, From.refl st G B, by simp⟩
 | (i, x) :: l, vs, st, B, G, r, U, h, hp, ht => by
  simp only [mvAll] at ht
  obtain ⟨⟨y, U1⟩, hy, ht⟩ := bind_some ht
  obtain ⟨v, rv, rfl, he, hp⟩ := hp
  split at ht
  ·cases ht
  ·rename_i hno
   split at ht
   ·rename_i t x1 heq
    have heq : y = ⟨t, some x1⟩ := heq
    subst heq
    obtain ⟨⟨r2, U2⟩, hr2, hz⟩ := Option.map_eq_some_iff.1 ht
    simp only [Prod.mk.injEq] at hz
    obtain ⟨rfl, rfl⟩ := hz
    obtain ⟨B1, G1, F1, hI1, hv1, hB1, hn1, hs1, hap1, hE1, hFr1, hor1⟩ := part_ok h he hy rfl
    have hnh : ∀ q ∈ l, ∀ m ∈ updNames U1, q.2.hits m true = false := by
     intro q hq m hm
     obtain ⟨u, hu, rfl⟩ := List.mem_map.1 hm
     cases hb : q.2.hits u.1 true with
     | false => rfl
     | true =>
      refine absurd ?_ hno
      rw [List.any_eq_true]
      exact ⟨u, hu, List.any_eq_true.2 ⟨q, hq, hb⟩⟩
    have hcong : mvAll (look (applyU U1 st)) l = mvAll (look st) l := by
     refine mvAll_congr l fun q hq n hn => ?_
     show Pv.lk n (applyU U1 st).pl = Pv.lk n st.pl
     refine applyU_pl_other U1 st n fun hm => ?_
     rw [hnh q hq n hm] at hn
     cases hn
    obtain ⟨B2, G2, Fs, hI2, hd2, hB2, hn2, hs2, hap2, hFr2, hor2⟩ := mvAll_ok l rv (applyU U1 st) B1 G1 r2 U2 hI1 (Prs.ofH hE1 l rv hnh hp) (by rw [hcong]; exact hr2)
    refine ⟨B2, G2, F1 :: Fs, by rw [applyU_append]; exact hI2, ⟨v, rv, F1, Fs, rfl, rfl, hv1.same (fun _ _ => rfl) hB2 (fun _ _ => rfl), hd2⟩, fun b hb => hB2 b (hB1 b hb), ?_, ?_, ?_, by rw [applyU_append]; exact hFr1.trans hFr2, ?_⟩
    ·rw [List.flatten_cons]
     refine List.nodup_append.2 ⟨hn1, hn2, fun b hb c hc e => ?_⟩
     subst e
     obtain ⟨n, d, hd, hbn⟩ := hor2 b hc
     exact hap1 b hb n d hd hbn
    ·intro b hb
     rw [List.flatten_cons, List.mem_append] at hb
     rcases hb with hb | hb
     ·refine ⟨fun h2 => ?_, (hs1 b hb).2⟩
      rcases hFr2.shut b h2 with h3 | ⟨n, d, hd, hbn⟩
      ·exact (hs1 b hb).1 h3
      ·exact hap1 b hb n d hd hbn
     ·exact hs2 b hb
    ·intro b hb m d hm hbm
     rw [applyU_append] at hm
     rw [List.flatten_cons, List.mem_append] at hb
     rcases hb with hb | hb
     ·obtain ⟨d0, h0, h1⟩ := hFr2.pl m d hm
      exact hap1 b hb m d0 h0 (h1 b hbm)
     ·exact hap2 b hb m d hm hbm
    ·intro b hb
     rw [List.flatten_cons, List.mem_append] at hb
     rcases hb with hb | hb
     ·exact hor1 b hb
     ·obtain ⟨n, d, hd, hbn⟩ := hor2 b hb
      obtain ⟨d0, h0, h1⟩ := hFr1.pl n d hd
      exact ⟨n, d0, h0, h1 b hbn⟩
   ·cases ht

theorem mapM_prs {F : Nat × Operand → Option (Nat × EV)} (hF : ∀ q z, F q = some z → z.1 = q.1 ∧ EVR (tv a) w B G (look st) z.2 (a.eval q.2)) : ∀ (ps : List (Nat × Operand)) (xs : List (Nat × EV)), ps.mapM F = some xs →
  Prs (tv a) w B G (look st) xs (ps.map fun q => (q.1, a.eval q.2))
 | [], xs, h => by
  simp only [List.mapM_nil] at h
  obtain rfl := Option.some.inj h
  rfl
 | q :: ps, xs, h => by
  rw [List.mapM_cons] at h
  obtain ⟨z, hz, h⟩ := bind_some h
  obtain ⟨zs, hzs, h⟩ := bind_some h
  obtain rfl := Option.some.inj h
  obtain ⟨h1, h2⟩ := hF q z hz
  obtain ⟨i, e⟩ := z
  have h1 : i = q.1 := h1
  subst h1
  exact ⟨a.eval q.2, _, rfl, h2, mapM_prs hF ps zs hzs⟩

theorem Dat.lk {r : List (Nat × Dyn)} {vs : List (Nat × Value)} (h : Dat w B r vs) (i : Nat) : match Pv.lk i r with
  | some d => ∃ v, Pv.lk i vs = some v ∧ d.ty.pure = true ∧ VR w B d.ty d.val v []
  | none => Pv.lk i vs = none := by
 induction r generalizing vs with
 | nil => have h : vs = [] := h; subst h; rfl
 | cons q r ih =>
  obtain ⟨j, d⟩ := q
  obtain ⟨v, rv, rfl, hp, hv, h⟩ := h
  have ih := ih h
  simp only [Pv.lk]
  cases hb : Nat.beq i j with
  | true => exact ⟨v, rfl, hp, hv⟩
  | false => exact ih

theorem Dat.fst {r : List (Nat × Dyn)} {vs : List (Nat × Value)} (h : Dat w B r vs) : vs.map (·.1) = r.map (·.1) := by
 induction r generalizing vs with
 | nil => have h : vs = [] := h; subst h; rfl
 | cons q r ih =>
  obtain ⟨v, rv, rfl, hp, hv, h⟩ := h
  simp [ih h]

theorem Dat.mem {r : List (Nat × Dyn)} {vs : List (Nat × Value)} (h : Dat w B r vs) : ∀ q ∈ vs, ∃ d, (q.1, d) ∈ r ∧ d.ty.pure = true ∧ VR w B d.ty d.val q.2 [] := by
 induction r generalizing vs with
 | nil => have h : vs = [] := h; subst h; intro q hq; cases hq
 | cons p r ih =>
  obtain ⟨j, d⟩ := p
  obtain ⟨v, rv, rfl, hp, hv, h⟩ := h
  intro q hq
  rcases List.mem_cons.1 hq with rfl | hq
  ·exact ⟨d, by simp, hp, hv⟩
  ·obtain ⟨d', h1, h2⟩ := ih h q hq
   exact ⟨d', by simp [h1], h2⟩

theorem nodupK_ok : ∀ (r : List (Nat × Dyn)), nodupK r = true → (r.map (·.1)).Nodup
 | [], _ => by simp
 | q :: r, h => by
  simp only [nodupK, Bool.and_eq_true, Bool.not_eq_true'] at h
  simp only [List.map_cons, List.nodup_cons]
  refine ⟨fun hm => ?_, nodupK_ok r h.2⟩
  obtain ⟨p, hp, he⟩ := List.mem_map.1 hm
  have := List.any_eq_false.1 h.1 p hp
  rw [he] at this
  simp at this

theorem laid_ok {P : Program} : ∀ (fs : List Field) (off : Nat) (zk : Ty) (cs : List Value), laid P off fs zk = true → Rel w B zk (dflt zk) cs [] →
  ∃ ss : List (List Value), cs = ss.flatten ∧ ss.length = fs.length ∧
   (∀ i f, fs[i]? = some f → ∃ s t, ss[i]? = some s ∧ f.offset = off + (ss.take i).flatten.length ∧ sizeOk P f.type t = true ∧ t.size = s.length) ∧
   ∀ (i0 : Nat) (g : Nat → Option Dyn) (y : Dyn), bldF g i0 zk = some y → (∀ i s d, ss[i]? = some s → g (i0 + i) = some d → d.ty.size = s.length) ∧ ∀ (φ : Nat → List Nat) (ss' : List (List Value)), ss'.length = fs.length →
    (∀ i, i < fs.length → match g (i0 + i) with | some d => ∃ c, ss'[i]? = some c ∧ Rel w B d.ty d.val c (φ (i0 + i)) | none => ss'[i]? = ss[i]? ∧ φ (i0 + i) = []) → Rel w B y.ty y.val ss'.flatten (fpF φ i0 fs.length)
 | [], off, zk, cs, hl, hR => by
  cases zk with
  | unit =>
   refine ⟨[], hR.1, rfl, by simp, fun i0 g y hy => ⟨by simp, fun φ ss' hs _ => ?_⟩⟩
   obtain rfl := Option.some.inj hy
   have : ss' = [] := List.eq_nil_of_length_eq_zero hs
   subst this
   exact ⟨rfl, rfl⟩
  | _ => cases hl
 | f :: fs, off, zk, cs, hl, hR => by
  cases zk with
  | pair x y =>
   simp only [laid, Bool.and_eq_true] at hl
   obtain ⟨c1, c2, F1, F2, rfl, hF, h1, h2⟩ := hR
   obtain ⟨rfl, rfl⟩ := List.append_eq_nil_iff.1 hF.symm
   have hc1 := Rel_length w B _ _ _ _ h1
   obtain ⟨ss, rfl, hlen, hpl, hb⟩ := laid_ok fs (off + x.size) y c2 hl.2 h2
   refine ⟨c1 :: ss, by simp, by simp [hlen], ?_, ?_⟩
   ·intro i f' hi
    cases i with
    | zero =>
     obtain rfl : f = f' := by simpa using hi
     exact ⟨c1, x, rfl, by simpa using Nat.eq_of_beq_eq_true hl.1.1, hl.1.2, hc1.symm⟩
    | succ i =>
     obtain ⟨s, t, k1, k2, k3, k4⟩ := hpl i f' (by simpa using hi)
     exact ⟨s, t, by simpa using k1, by rw [k2, List.take_succ_cons, List.flatten_cons, List.length_append, hc1, Nat.add_assoc], k3, k4⟩
   ·intro i0 g z hz
    simp only [bldF] at hz
    obtain ⟨y0, hy0, hz⟩ := bind_some hz
    obtain ⟨z1, hz1, rfl⟩ := Option.map_eq_some_iff.1 hz
    obtain ⟨hb1, hb2⟩ := hb (i0 + 1) g z1 hz1
    refine ⟨fun i s d hs hd => ?_, fun φ ss' hs' hss => ?_⟩
    ·cases i with
     | zero =>
      obtain rfl : c1 = s := by simpa using hs
      rw [show i0 + 0 = i0 from rfl] at hd
      rw [hd] at hy0
      simp only at hy0
      split at hy0
      ·rename_i he
       rw [hc1]; exact Nat.eq_of_beq_eq_true he
      ·cases hy0
     | succ i => exact hb1 i s d (by simpa using hs) (by rw [← hd]; congr 1; omega)
    ·cases ss' with
     | nil => simp at hs'
     | cons c' ss' =>
      have h0 := hss 0 (by simp)
      have hrest := hb2 φ ss' (by simpa using hs') (fun i hi => by
       have := hss (i + 1) (by simpa using hi)
       rw [show i0 + (i + 1) = i0 + 1 + i by omega] at this
       simpa using this)
      refine ⟨c', ss'.flatten, φ i0, fpF φ (i0 + 1) fs.length, by simp, rfl, ?_, hrest⟩
      rw [show i0 + 0 = i0 from rfl] at h0
      cases hg : g i0 with
      | some d =>
       rw [hg] at h0 hy0
       simp only at h0 hy0
       split at hy0
       ·obtain rfl := Option.some.inj hy0
        obtain ⟨c, hc, hr⟩ := h0
        obtain rfl : c' = c := by simpa using hc
        exact hr
       ·cases hy0
      | none =>
       rw [hg] at h0 hy0
       simp only at h0 hy0
       obtain rfl := Option.some.inj hy0
       obtain ⟨h0, h00⟩ := h0
       obtain rfl : c' = c1 := by simpa using h0
       rw [h00]
       exact h1
  | _ => cases hl

theorem bldL_ok {e : Ty} {z : Option (T e)} {g : Nat → Option Dyn} : ∀ (n i0 : Nat) (l : List (T e)), bldL e z g i0 n = some l → l.length = n ∧ (∀ i d, i < n → g (i0 + i) = some d → d.ty = e) ∧
  ∀ ss' : List (List Value), ss'.length = n →
   (∀ i, i < n → match g (i0 + i) with | some d => ∃ c, ss'[i]? = some c ∧ Rel w B d.ty d.val c [] | none => ∀ zv, z = some zv → ∃ c, ss'[i]? = some c ∧ Rel w B e zv c []) → RelL (Rel w B e) l ss'.flatten []
 | 0, i0, l, h => by
  obtain rfl := Option.some.inj h
  refine ⟨rfl, by intro i d hi; omega, fun ss' hs _ => ?_⟩
  have : ss' = [] := List.eq_nil_of_length_eq_zero hs
  subst this
  exact ⟨rfl, rfl⟩
 | n + 1, i0, l, h => by
  simp only [bldL] at h
  obtain ⟨v, hv, h⟩ := bind_some h
  obtain ⟨l', hl', rfl⟩ := Option.map_eq_some_iff.1 h
  obtain ⟨h1, h2, h3⟩ := bldL_ok n (i0 + 1) l' hl'
  refine ⟨by simp [h1], fun i d hi hd => ?_, fun ss' hs' hss => ?_⟩
  ·cases i with
   | zero =>
    rw [show i0 + 0 = i0 from rfl] at hd
    rw [hd] at hv
    simp only [Dyn.as] at hv
    split at hv
    ·assumption
    ·cases hv
   | succ i => exact h2 i d (by omega) (by rw [← hd]; congr 1; omega)
  ·cases ss' with
   | nil => simp at hs'
   | cons c' ss' =>
    have h0 := hss 0 (by simp)
    have hrest := h3 ss' (by simpa using hs') (fun i hi => by
     have := hss (i + 1) (by omega)
     rw [show i0 + (i + 1) = i0 + 1 + i by omega] at this
     simpa using this)
    refine ⟨c', ss'.flatten, [], [], by simp, rfl, ?_, hrest⟩
    rw [show i0 + 0 = i0 from rfl] at h0
    cases hg : g i0 with
    | some d =>
     rw [hg] at h0 hv
     simp only at h0 hv
     obtain ⟨c, hc, hr⟩ := h0
     obtain rfl : c' = c := by simpa using hc
     obtain ⟨dt, dv⟩ := d
     simp only [Dyn.as] at hv
     split at hv
     ·rename_i he
      have he : dt = e := he
      subst he
      obtain rfl := Option.some.inj hv
      exact hr
     ·cases hv
    | none =>
     rw [hg] at h0 hv
     simp only at h0 hv
     obtain ⟨c, hc, hr⟩ := h0 v hv
     obtain rfl : c' = c := by simpa using hc
     exact hr

end
end
end Go.Pv

namespace Go.Pv
noncomputable section
universe u v

theorem mapM_get {α β : Type} {F : α → Option β} : ∀ {l : List α}, (∀ x ∈ l, ∃ y, F x = some y) → ∃ r, l.mapM F = some r ∧ ∀ (i : Nat) x, l[i]? = some x → r[i]? = F x
  | [], _ => ⟨[], rfl, by simp⟩
  | x :: l, h => by
    obtain ⟨y, hy⟩ := h x (by simp)
    obtain ⟨r, hr, hg⟩ := mapM_get (l := l) (fun z hz => h z (by simp [hz]))
    refine ⟨y :: r, ?_, fun i z hi => ?_⟩
    · rw [List.mapM_cons, hy, hr]; rfl
    · cases i with
      | zero => obtain rfl : x = z := by simpa using hi
                simp [hy]
      | succ i => simpa using hg i z (by simpa using hi)

theorem zeroD_dflt {P : Program} {t : TypeId} {d : Dyn} (h : zeroD P t = some d) : d.val = dflt d.ty := by
 unfold zeroD at h
 obtain ⟨ty, _, h⟩ := bind_some h
 obtain ⟨z, _, h⟩ := bind_some h
 split at h
 ·obtain rfl := Option.some.inj h; rfl
 ·cases h

theorem lk_mem {α : Type} {i : Nat} {d : α} : ∀ {r : List (Nat × α)}, (i, d) ∈ r → (r.map (·.1)).Nodup → lk i r = some d
 | (j, x) :: r, h, hn => by
  simp only [List.map_cons, List.nodup_cons] at hn
  simp only [lk]
  rcases List.mem_cons.1 h with h1 | h1
  ·obtain ⟨rfl, rfl⟩ := Prod.mk.inj h1
   simp
  ·have : i ≠ j := by
    intro e; subst e
    exact hn.1 (List.mem_map.2 ⟨(i, d), h1, rfl⟩)
   rw [beq_ne this]
   exact lk_mem h1 hn.2

theorem foldl_set_length : ∀ (parts : List (Nat × Value)) (ss : List (List Value)), (parts.foldl (fun ss q => ss.set q.1 q.2.cells.toList) ss).length = ss.length
 | [], _ => rfl
 | q :: parts, ss => by simp only [List.foldl_cons]; rw [foldl_set_length parts]; simp

theorem RelL_segs {α : Type} {R : α → List Value → List Nat → Prop} : ∀ {xs : List α} {cs : List Value} {F : List Nat}, RelL R xs cs F → F = [] → ∃ ss : List (List Value), cs = ss.flatten ∧ ss.length = xs.length ∧ ∀ (i : Nat) x, xs[i]? = some x → ∃ s, ss[i]? = some s ∧ R x s []
  | [], _, _, ⟨h, _⟩, _ => ⟨[], h, rfl, by simp⟩
  | x :: xs, _, _, ⟨c1, c2, F1, F2, hc, hF, h1, h2⟩, he => by
    rw [he] at hF
    obtain ⟨rfl, rfl⟩ := List.append_eq_nil_iff.1 hF.symm
    obtain ⟨ss, rfl, hl, hg⟩ := RelL_segs h2 rfl
    refine ⟨c1 :: ss, by simp [hc], by simp [hl], fun i y hi => ?_⟩
    cases i with
    | zero => obtain rfl : x = y := by simpa using hi
              exact ⟨c1, rfl, h1⟩
    | succ i => obtain ⟨s, k1, k2⟩ := hg i y (by simpa using hi)
                exact ⟨s, by simpa using k1, k2⟩

theorem segs_len {n : Nat} : ∀ (ss : List (List Value)), (∀ s ∈ ss, s.length = n) → ss.flatten.length = ss.length * n
 | [], _ => by simp
 | s :: ss, h => by rw [List.flatten_cons, List.length_append, segs_len ss (fun x hx => h x (by simp [hx])), h s (by simp), List.length_cons, Nat.add_mul, Nat.one_mul, Nat.add_comm]

section
variable {X : Cx} {st : St} {a : Act} {w : World} {B : Nat → Prop} {G : Nat → PG} {E : Operand → Option EV}

theorem row_filled {n : Nat} {k e' : Ty} {cells : Array Value} {r : List (Nat × Dyn)} {vs : List (Nat × Value)} {l : List (T e')} (hR : RelL (Rel w B k) (List.replicate n (dflt k)) cells.toList []) (hD : Dat w B r vs)
  (hks : k.size = e'.size) (hnd : nodupK r = true) (hlt : r.all (fun q => Nat.blt q.1 n) = true) (hl : bldL e' ((⟨k, dflt k⟩ : Dyn).as e') (fun i => lk i r) 0 n = some l) :
  ∃ cells', Instr.fill (fun i => some (i * e'.size, e'.size)) cells vs = some cells' ∧ RelL (Rel w B e') l cells'.toList [] ∧ l.length = n := by
 obtain ⟨ss, hss, hsl, hsg⟩ := RelL_segs hR rfl
 rw [List.length_replicate] at hsl
 have hseg : ∀ s ∈ ss, s.length = e'.size := by
  intro s hs
  obtain ⟨i, hi, rfl⟩ := List.mem_iff_getElem.1 hs
  obtain ⟨s', h1, h2⟩ := hsg i (dflt k) (by rw [List.getElem?_replicate, if_pos (by omega)])
  rw [List.getElem?_eq_getElem hi] at h1
  obtain rfl := Option.some.inj h1
  rw [← hks]; exact Rel_length w B _ _ _ _ h2
 have hnd' := nodupK_ok r hnd
 obtain ⟨hb1, hb2, hb3⟩ := bldL_ok (w := w) (B := B) n 0 l hl
 have hlen : ∀ q ∈ vs, q.1 < n := by
  intro q hq
  obtain ⟨d, hd, _⟩ := hD.mem q hq
  have := List.all_eq_true.1 hlt _ hd
  simpa [Nat.blt_eq] using this
 obtain ⟨cells', hc1, hc2⟩ := fill_segs (fun i => some (i * e'.size, e'.size)) vs cells ss hss (by
  intro q hq
  obtain ⟨d, hd, hp, hv⟩ := hD.mem q hq
  have hi : q.1 < ss.length := by rw [hsl]; exact hlen q hq
  refine ⟨ss[q.1], List.getElem?_eq_getElem hi, ?_, ?_⟩
  ·rw [hseg _ (List.getElem_mem hi), segs_len (ss.take q.1) (fun s hs => hseg s (List.mem_of_mem_take hs)), List.length_take, Nat.min_eq_left (Nat.le_of_lt hi)]
  ·have := hb2 q.1 d (hlen q hq) (by rw [Nat.zero_add]; exact lk_mem hd hnd')
   have hl := Rel_length w B _ _ _ _ hv.1
   rw [hseg _ (List.getElem_mem hi), ← this, ← hl]; simp)
 refine ⟨cells', hc1, ?_, hb1⟩
 rw [hc2]
 refine hb3 _ (by rw [foldl_set_length]; exact hsl) fun i hi => ?_
 have hg := segs_get vs ss i (fun q hq => by rw [hsl]; exact hlen q hq) (by rw [hD.fst]; exact hnd')
 have hd := hD.lk i
 rw [Nat.zero_add]
 cases hlk : lk i r with
 | some d =>
  rw [hlk] at hd
  obtain ⟨v, hv, _, hvr⟩ := hd
  rw [hv] at hg
  exact ⟨_, hg, hvr.1⟩
 | none =>
  rw [hlk] at hd
  have hd : lk i vs = none := hd
  rw [hd] at hg
  intro zv hzv
  obtain ⟨s, h1, h2⟩ := hsg i (dflt k) (by rw [List.getElem?_replicate, if_pos hi])
  refine ⟨s, by rw [hg]; exact h1, ?_⟩
  simp only [Dyn.as] at hzv
  split at hzv
  ·rename_i he
   have he : k = e' := he
   subst he
   obtain rfl := Option.some.inj hzv
   exact h2
  ·cases hzv

theorem toList_map_prs (ps : Array (Nat × Operand)) (ρ : Operand → Value) : (ps.map fun (i, x) => (i, ρ x)).toList = ps.toList.map fun q => (q.1, ρ q.2) := by
 simp

theorem op_build (h : Inv X st a w B G) (hE : EOk X st a w B G E) {o : Oper} {t : TypeId} {ps : Array (Nat × Operand)} (ho : o.op = .build t ps) {Γ : Nat → Option CSem} {dst : Nat} {r : ORes} (he : evalOp X.P Γ (look st) E dst (.build t ps) o.type = some r) {x : r.α} (_hx : r.run = some x) :
  Does X st a w o (r.out x).ev (r.out x).upd := by
 simp only [evalOp, buildOp] at he
 split at he
 ·rename_i fs hu
  obtain ⟨xs, hxs, he⟩ := bind_some he
  obtain ⟨⟨r', U⟩, ht, he⟩ := bind_some he
  obtain ⟨z, hz, he⟩ := bind_some he
  split at he
  ·rename_i zk zval
   split at he
   ·rename_i hk
    simp only [Bool.and_eq_true] at hk
    obtain ⟨y, hy, he⟩ := bind_some he
    have hprs := mapM_prs (a := a) (w := w) (B := B) (G := G) (st := st) (fun q z hz => by
     obtain ⟨e1, h1, hz⟩ := bind_some hz
     obtain ⟨e2, h2, rfl⟩ := Option.map_eq_some_iff.1 hz
     obtain ⟨f, _, h2⟩ := bind_some h2
     exact ⟨rfl, fix_ok (hE _ _ h1) h2⟩) ps.toList xs hxs
    obtain ⟨B', G', Fs, hI, hD, _, hFn, hFs, hFap, _, _⟩ := mvAll_ok xs _ st B G r' U h hprs ht
    obtain ⟨_, zv, hzv, hzR⟩ := zeroD_ok (w := w) (B := B') hz
    have hdz : zval = dflt zk := zeroD_dflt hz
    subst hdz
    obtain ⟨ss, hss, hsl, hpl, hb⟩ := laid_ok (w := w) (B := B') fs.toList 0 zk zv.cells.toList hk.1.1 hzR
    obtain ⟨hb1, hb2⟩ := hb 0 _ y hy
    have hnd := nodupK_ok r' hk.1.2
    have hlt : ∀ q ∈ (ps.toList.map fun q => (q.1, a.eval q.2)), q.1 < fs.toList.length := by
     intro q hq
     obtain ⟨d, _, hd, _⟩ := hD.mem q hq
     have := List.all_eq_true.1 hk.2 _ hd
     simpa [Nat.blt_eq] using this
    obtain ⟨places, hplaces, hpg⟩ := mapM_get (F := fun f : Field => (X.P.info? f.type).map fun i => (f.offset, i.size)) (l := fs.toList) (by
     intro f hf
     obtain ⟨i, hi, rfl⟩ := List.mem_iff_getElem.1 hf
     obtain ⟨s, t, _, _, h3, _⟩ := hpl i _ (List.getElem?_eq_getElem hi)
     obtain ⟨inf, hinf, _⟩ := sizeOk_info h3
     exact ⟨_, by rw [hinf]; rfl⟩)
    obtain ⟨cells', hc1, hc2⟩ := fill_segs (places.toArray[·]?) (ps.toList.map fun q => (q.1, a.eval q.2)) zv.cells ss hss (by
     intro q hq
     obtain ⟨d, F, hd, hv⟩ := hD.mem q hq
     have hi := hlt q hq
     obtain ⟨s, t, h1, h2, h3, h4⟩ := hpl q.1 _ (List.getElem?_eq_getElem hi)
     obtain ⟨inf, hinf, hsz, _⟩ := sizeOk_info h3
     refine ⟨s, h1, ?_, ?_⟩
     ·simp only [List.getElem?_toArray]
      rw [hpg q.1 _ (List.getElem?_eq_getElem hi), hinf, Option.map_some, h2, hsz, h4, Nat.zero_add]
     ·rw [← hb1 q.1 s d h1 (by rw [Nat.zero_add]; exact lk_mem hd hnd), ← Rel_length w B' _ _ _ _ hv.1]; simp)
    have hbuilt : X.P.built t (ps.toList.map fun q => (q.1, a.eval q.2)) = some cells' := by
     unfold Program.built
     cases hinf : X.P.info? t with
     | none => rw [hinf] at hzv; cases hzv
     | some inf =>
      rw [hinf] at hzv
      have hzv : inf.zero = some zv := hzv
      simp only [hu, hzv, hplaces]
      exact hc1
    have hrun : (execOp a.eval o).run X.P w = .ok (.value (.agg cells')) w := by
     have hr := run_build w t (ps.map fun (i, x) => (i, a.eval x)) cells' (by rw [toList_map_prs]; exact hbuilt)
     simp [execOp, ho, hr]
    have hrel : Rel w B' y.ty y.val cells'.toList (fpF (fun i => ftF i r' Fs) 0 fs.toList.length) := by
     rw [hc2]
     refine hb2 _ _ (by rw [foldl_set_length]; exact hsl) fun i hi => ?_
     have hg := segs_get (ps.toList.map fun q => (q.1, a.eval q.2)) ss i (fun q hq => by rw [hsl]; exact hlt q hq) (by rw [hD.fst]; exact hnd)
     have hd := hD.lk i
     rw [Nat.zero_add]
     cases hlk : lk i r' with
     | some d =>
      rw [hlk] at hd
      obtain ⟨v, hv, hvr⟩ := hd
      rw [hv] at hg
      exact ⟨_, hg, hvr.1⟩
     | none =>
      rw [hlk] at hd
      obtain ⟨hd, hφ⟩ := hd
      have hd : lk i (ps.toList.map fun q => (q.1, a.eval q.2)) = none := hd
      rw [hd] at hg
      exact ⟨hg, hφ⟩
    split at he
    ·rename_i hyp
     obtain rfl := Option.some.inj he
     refine Does.value (v := .agg cells') hrun hI ?_
     simp only [EVR]
     have hF0 := Rel_pure w B' _ _ _ _ hyp hrel
     rw [hF0] at hrel
     exact ⟨hyp, hrel, rfl⟩
    ·obtain rfl := Option.some.inj he
     have hmem : ∀ b ∈ fpF (fun i => ftF i r' Fs) 0 fs.toList.length, b ∈ Fs.flatten := by
      intro b hb
      obtain ⟨j, _, hj⟩ := fpF_mem hb
      exact ftF_mem hj
     have hlen := Rel_length w B' _ _ _ _ hrel
     have hnew := hI.newPl (n := nameOf dst 0) (d := ⟨.agg y.ty, y.val⟩) (w' := w) (g := ⟨none, cells'.toList, fpF (fun i => ftF i r' Fs) 0 fs.toList.length⟩) (Nat.le_refl _) ⟨rfl, rfl, rfl, fun _ => Nat.le_refl _⟩ (fun _ _ _ => rfl) (nameOf_even dst 0) ⟨hrel, trivial⟩
      (by simp only [PG.blocks]; exact fpF_nodup (fun i => ftF_nodup hFn) (fun i j hij b hb => ftF_disj hij hFn hb) _ _)
      (fun b hb => ⟨(hFs b (hmem b (by simpa [PG.blocks] using hb))).1, (hFs b (hmem b (by simpa [PG.blocks] using hb))).2.2⟩)
      (fun b hb m d' hm => hFap b (hmem b (by simpa [PG.blocks] using hb)) m d' hm)
     have hev := at_new (w := w) (B := B') (G := G') (tv := tv a) (st := applyU U st) (n := nameOf dst 0) (d := ⟨.agg y.ty, y.val⟩) (g := ⟨none, cells'.toList, fpF (fun i => ftF i r' Fs) 0 fs.toList.length⟩) (v := .agg cells') rfl hlen rfl
     rw [← applyU_append] at hnew hev
     exact Does.value (v := .agg cells') hrun hnew hev
   ·cases he
  ·cases he
 ·rename_i n e hu
  obtain ⟨xs, hxs, he⟩ := bind_some he
  obtain ⟨⟨r', U⟩, ht, he⟩ := bind_some he
  obtain ⟨z, hz, he⟩ := bind_some he
  split at he
  ·rename_i m k zval
   simp only at he
   generalize kindOr k r' = e' at he
   split at he
   ·rename_i hk
    simp only [Bool.and_eq_true] at hk
    obtain ⟨l, hl, rfl⟩ := Option.map_eq_some_iff.1 he
    have hprs := mapM_prs (a := a) (w := w) (B := B) (G := G) (st := st) (fun q z hz => by
     obtain ⟨e1, h1, hz⟩ := bind_some hz
     obtain ⟨e2, h2, rfl⟩ := Option.map_eq_some_iff.1 hz
     exact ⟨rfl, fix_ok (hE _ _ h1) h2⟩) ps.toList xs hxs
    obtain ⟨B', G', hI, hD, _, _⟩ := takeAll_ok xs _ st B G r' U h hprs ht
    obtain ⟨_, zv, hzv, hzR⟩ := zeroD_ok (w := w) (B := B') hz
    have hmn := Nat.eq_of_beq_eq_true hk.1.1.1.1.1
    subst hmn
    have hdz : zval = List.replicate m (dflt k) := zeroD_dflt hz
    subst hdz
    obtain ⟨cells', hc1, hc2, hc3⟩ := row_filled hzR.2 hD (Nat.eq_of_beq_eq_true hk.1.2) hk.1.1.2 hk.2 hl
    obtain ⟨ie, hie, hies, _⟩ := sizeOk_info hk.1.1.1.1.2
    have hbuilt : X.P.built t (ps.toList.map fun q => (q.1, a.eval q.2)) = some cells' := by
     unfold Program.built
     cases hinf : X.P.info? t with
     | none => rw [hinf] at hzv; cases hzv
     | some inf =>
      rw [hinf] at hzv
      have hzv : inf.zero = some zv := hzv
      simp only [hu, hzv, hie, hies]
      exact hc1
    refine Does.value (v := .agg cells') ?_ hI ?_
    ·have hr := run_build w t (ps.map fun (i, x) => (i, a.eval x)) cells' (by rw [toList_map_prs]; exact hbuilt)
     simp [execOp, ho, hr]
    ·show EVR _ _ _ _ _ (.val ⟨.agg (.arr m e'), l⟩) _
     simp only [EVR]
     exact ⟨hk.1.1.1.2, ⟨hc3, hc2⟩, rfl⟩
   ·cases he
  ·cases he
 ·cases he

theorem zeroRow_list (l : List Value) : ∀ n, (List.range (n * l.length)).map (fun i => l.toArray[i % l.length]!) = (List.replicate n l).flatten
 | 0 => by simp
 | n + 1 => by
  rw [Nat.add_mul, Nat.one_mul, Nat.add_comm, List.range_add, List.map_append, List.map_map, List.replicate_succ, List.flatten_cons, ← zeroRow_list l n]
  congr 1
  ·apply List.ext_getElem
   ·simp
   ·intro i h1 h2
    simp at h1 h2
    simp [Nat.mod_eq_of_lt h1, h1]
  ·apply List.map_congr_left
   intro i _
   simp

theorem op_buildSlice (h : Inv X st a w B G) (hE : EOk X st a w B G E) {o : Oper} {t : TypeId} {n : Nat} {ps : Array (Nat × Operand)} (ho : o.op = .buildSlice t n ps) {Γ : Nat → Option CSem} {dst : Nat} {r : ORes} (he : evalOp X.P Γ (look st) E dst (.buildSlice t n ps) o.type = some r) {x : r.α} (_hx : r.run = some x) :
    Does X st a w o (r.out x).ev (r.out x).upd := by
  simp only [evalOp, buildSliceOp] at he
  split at he
  · rename_i e hu
    obtain ⟨xs, hxs, he⟩ := bind_some he
    obtain ⟨⟨r', U⟩, ht, he⟩ := bind_some he
    obtain ⟨z, hz, he⟩ := bind_some he
    simp only at he
    generalize kindOr z.ty r' = e' at he
    split at he
    · rename_i hk
      simp only [Bool.and_eq_true, Bool.not_eq_true'] at hk
      obtain ⟨l, hl, rfl⟩ := Option.map_eq_some_iff.1 he
      have hprs := mapM_prs (a := a) (w := w) (B := B) (G := G) (st := st) (fun q z hz => by
        obtain ⟨e1, h1, hz⟩ := bind_some hz
        obtain ⟨e2, h2, rfl⟩ := Option.map_eq_some_iff.1 hz
        exact ⟨rfl, fix_ok (hE _ _ h1) h2⟩) ps.toList xs hxs
      obtain ⟨B', G', hI, hD, _, _⟩ := takeAll_ok xs _ st B G r' U h hprs ht
      obtain ⟨_, zv, hzv, hzR⟩ := zeroD_ok (w := w) (B := B') hz
      obtain ⟨zt, zval⟩ := z
      have hdz : zval = dflt zt := zeroD_dflt hz
      subst hdz
      have hsz : zt.size = e'.size := Nat.eq_of_beq_eq_true hk.1.2
      have h0 : e'.size ≠ 0 := fun e => by rw [e] at hk; simp at hk
      have hzl := Rel_length w B' _ _ _ _ hzR
      have hzl' : zv.cells.size = e'.size := by rw [← hsz, ← hzl]; simp
      have hrep : ∀ n, RelL (Rel w B' zt) (List.replicate n (dflt zt)) (List.replicate n zv.cells.toList).flatten [] := by
        intro n
        induction n with
        | zero => exact ⟨rfl, rfl⟩
        | succ n ih => exact ⟨_, _, [], [], by rw [List.replicate_succ, List.flatten_cons], rfl, hzR, ih⟩
      have hcells : ((Array.range (n * e'.size)).map (zv.cells[· % zv.cells.size]!)).toList = (List.replicate n zv.cells.toList).flatten := by
        have := zeroRow_list zv.cells.toList n
        rw [← this]
        simp [hzl']
      obtain ⟨cells', hc1, hc2, hc3⟩ := row_filled (cells := (Array.range (n * e'.size)).map (zv.cells[· % zv.cells.size]!)) (by rw [hcells]; exact hrep n) hD hsz hk.1.1.2 hk.2 hl
      have hcl : cells'.size = n * e'.size := by
        have := RelL_length (fun x cs F h => Rel_length w B' e' x cs F h) _ _ _ hc2
        rw [hc3] at this
        simpa using this
      have hle : n * e'.size ≤ 16777216 := Nat.le_of_ble_eq_true hk.1.1.1.2
      obtain ⟨g, hI2, hev⟩ := hI.newRow (nameOf_even dst 0) (e := e') hk.1.1.1.1.1.2 (xs := l) (c := cells') (cap := n) e (by
          have hll : l.length * e'.size = cells'.toList.length := by rw [hc3, ← hcl]; simp
          rw [hll, List.take_length]; exact hc2) (by omega)
        (by have : n ≤ n * e'.size := Nat.le_mul_of_pos_right n (by omega)
            unfold maxLen; omega) hcl { w with heap := w.heap.push (.cells cells' e) } rfl (Nat.le_refl _)
      rw [← applyU_append] at hI2 hev
      refine Does.value (w' := { w with heap := w.heap.push (.cells cells' e) }) (v := .slice (some ⟨w.heap.size, 0, none⟩) l.length n) ?_ hI2 hev
      have hzr := run_zero hzv w
      have hnot : ¬ (2 ^ 24 < n * e'.size) := by omega
      by_cases hn0 : n * e'.size = 0
      · have hn : n = 0 := by
          rcases Nat.mul_eq_zero.1 hn0 with h | h
          · exact h
          · exact absurd h h0
        subst hn
        have hvs : ps.toList.map (fun q => (q.1, a.eval q.2)) = [] := by
          cases hvs : ps.toList.map (fun q => (q.1, a.eval q.2)) with
          | nil => rfl
          | cons q vs =>
            rw [hvs] at hD
            obtain ⟨d, hd, _⟩ := hD.mem q (by simp)
            have := List.all_eq_true.1 hk.2 _ hd
            simp [Nat.blt_eq] at this
        have hps : ps = #[] := by
          have : ps.toList = [] := by simpa using hvs
          simpa using this
        subst hps
        have hc : cells' = #[] := by
          have : cells'.size = 0 := by rw [hcl]; omega
          exact Array.eq_empty_of_size_eq_zero this
        subst hc
        simp [execOp, ho, Instr.buildSlice, underlying, hu, run_sizeOf hk.1.1.1.1.1.1, Instr.fill, Go.newRow, hc3]
        rw [show Array.range 0 = #[] by simp [Array.range], Array.map_empty]
      · simp only [execOp, ho, Instr.buildSlice, underlying, Sem.run_bind, run_program, Result.andThen_ok, hu, Sem.run_pure, run_sizeOf hk.1.1.1.1.1.1, Sem.run_ite, hn0, hzr, if_false]
        rw [if_neg hnot]
        simp only [toList_map_prs, hc1, Sem.run_bind, Go.newRow, run_newObj, Result.andThen_ok, Sem.run_pure, hc3]
    · cases he
  · cases he

end
end
end Go.Pv

namespace Go.Pv
noncomputable section
universe u v

theorem plain_one' {v : Value} (h : Value.plain? v = true) : v.oneCell' = true := by cases v <;> first | rfl | (cases h)

theorem setCell_heap (w : World) (b o : Nat) (v : Value) : (w.setCell ⟨b, o, none⟩ v).heap[b]? = (w.heap[b]?).map fun | .cells c e f => .cells (c.setIfInBounds o v) e f | o => o := by
 simp only [World.setCell, Array.getElem?_modify, if_true]
 cases w.heap[b]? with
 | none => rfl
 | some x => cases x <;> rfl

theorem setCells_ok (b : Nat) {ty : TypeId} {fr : Nat × Nat} : ∀ (vs : List Value) (o : Nat) (w : World) (c : Array Value) (A M Z : List Value), w.heap[b]? = some (.cells c ty fr) → c.toList = A ++ M ++ Z → A.length = o → M.length = vs.length →
  ∃ c', (w.setCells b o vs).heap[b]? = some (.cells c' ty fr) ∧ c'.toList = A ++ vs ++ Z
 | [], o, w, c, A, M, Z, h, hc, _, hM => by
  have : M = [] := List.eq_nil_of_length_eq_zero hM
  subst this
  exact ⟨c, h, by simpa using hc⟩
 | v :: vs, o, w, c, A, M, Z, h, hc, hA, hM => by
  cases M with
  | nil => simp at hM
  | cons m M =>
   obtain ⟨c', h1, h2⟩ := setCells_ok b vs (o + 1) (w.setCell ⟨b, o, none⟩ v) (c.setIfInBounds o v) (A ++ [v]) M Z (by rw [setCell_heap, h]; rfl)
    (by rw [Array.toList_setIfInBounds, hc, ← hA]; simp [List.set_append]) (by simp [hA]) (by simpa using hM)
   exact ⟨c', h1, by rw [h2]; simp⟩

theorem setCells_other (b : Nat) : ∀ (vs : List Value) (o : Nat) (w : World) (b' : Nat), b' ≠ b → Same w (w.setCells b o vs) b'
 | [], _, _, _, _ => rfl
 | v :: vs, o, w, b', h => by
  have h1 := setCells_other b vs (o + 1) (w.setCell ⟨b, o, none⟩ v) b' h
  refine Eq.trans h1 ?_
  simp only [World.setCell, Array.getElem?_modify, if_neg (Ne.symm h)]

theorem setCells_rest (b : Nat) : ∀ (vs : List Value) (o : Nat) (w : World), (w.setCells b o vs).heap.size = w.heap.size ∧ (w.setCells b o vs).tape = w.tape ∧ (w.setCells b o vs).os = w.os ∧ (w.setCells b o vs).output = w.output ∧ w.drawn ≤ (w.setCells b o vs).drawn
 | [], _, _ => ⟨rfl, rfl, rfl, rfl, Nat.le_refl _⟩
 | v :: vs, o, w => by
  obtain ⟨h1, h2, h3, h4, h5⟩ := setCells_rest b vs (o + 1) (w.setCell ⟨b, o, none⟩ v)
  refine ⟨h1.trans ?_, h2, h3, h4, h5⟩
  simp [World.setCell]

theorem rows_split {w : World} {b off : Nat} {c : Array Value} (hb : Blk w b c) {cs : List Value} (hr : Rows w b off cs) (hne : cs ≠ [] ∨ off ≤ c.size) : ∃ A Z, c.toList = A ++ cs ++ Z ∧ A.length = off := by
 have key : ∀ (i : Nat) v, cs[i]? = some v → c.toList[off + i]? = some v := by
  intro i v hi
  have := hr i v hi
  rw [hb.cell] at this
  simpa using this
 have hle : off + cs.length ≤ c.toList.length := by
  cases cs with
  | nil =>
   rcases hne with h | h
   ·exact absurd rfl h
   ·simpa using h
  | cons v cs =>
   have := key cs.length ((v :: cs)[cs.length]'(by simp)) (List.getElem?_eq_getElem _)
   have := (List.getElem?_eq_some_iff.1 this).1
   simp at this ⊢
   omega
 refine ⟨c.toList.take off, c.toList.drop (off + cs.length), ?_, by rw [List.length_take]; omega⟩
 apply List.ext_getElem?
 intro i
 by_cases h1 : i < off
 ·rw [List.append_assoc, List.getElem?_append_left (by rw [List.length_take]; omega), List.getElem?_take, if_pos h1]
 ·by_cases h2 : i < off + cs.length
  ·rw [List.append_assoc, List.getElem?_append_right (by rw [List.length_take]; omega), List.length_take, Nat.min_eq_left (by omega), List.getElem?_append_left (by omega)]
   have h3 : i - off < cs.length := by omega
   have := key (i - off) _ (List.getElem?_eq_getElem h3)
   rw [show off + (i - off) = i by omega] at this
   rw [this, List.getElem?_eq_getElem h3]
  ·rw [List.append_assoc, List.getElem?_append_right (by rw [List.length_take]; omega), List.length_take, Nat.min_eq_left (by omega), List.getElem?_append_right (by omega), List.getElem?_drop]
   congr 1; omega

theorem run_storeAt {P : Program} {w : World} {b off : Nat} {c : Array Value} (hb : Blk w b c) {A M Z : List Value} (hc : c.toList = A ++ M ++ Z) (hA : A.length = off) {v : Value} (hM : M.length = v.cells.toList.length) (hp : ∀ x ∈ v.cells.toList, Value.plain? x = true) {t : TypeId} {ty : Ty}
  (hs : sizeOk P t ty = true) (hv : v.cells.toList.length = ty.size) : (storeVar t ⟨b, off, none⟩ v).run P w = .ok () (w.setCells b off v.cells.toList) := by
 have hlen : c.size = A.length + M.length + Z.length := by rw [← Array.length_toList, hc]; simp [Nat.add_assoc]
 have hst := run_storeCells_cells (P := P) b off v.cells.toList 0 w (fun j hj => by
   rw [hb.cell, Option.isSome_iff_exists]
   exact ⟨_, Array.getElem?_eq_getElem (by omega)⟩)
  (fun j hj => by
   obtain ⟨ty', fr, h1, h2⟩ := hb
   unfold World.frozen?
   rw [h1]
   exact h2 _ (by show off + 0 + j < c.size; omega))
  (fun x hx => plain_one' (hp x hx))
 have hv2 : v.cells.size = ty.size := by rw [← hv]; simp
 simp only [storeVar, Sem.run_bind, run_sizeOf hs, Result.andThen_ok, Sem.run_ite, hv2, ne_eq, not_true_eq_false, if_false]
 simpa using hst

section
variable {X : Cx} {st : St} {a : Act} {w : World} {B : Nat → Prop} {G : Nat → PG} {E : Operand → Option EV}

theorem Inv.store (h : Inv X st a w B G) {n : Nat} {d : Dyn} (hd : lk n st.pl = some d) {b off : Nat} (hg : (G n).addr = some (b, off)) {p : Path} {y : ODyn} {v : T y.ty} (hget : getP ⟨d.ty, some d.val⟩ p = some y) (hv : y.val = some v)
  {u : Ty} {z : T u} {mid' : List Value} {F2' : List Nat} (hz : Rel w B u z mid' F2') (hn2 : F2'.Nodup) (hs2 : ∀ b ∈ F2', ¬ B b ∧ b < w.heap.size ∧ (b < X.w0.heap.size → b ∈ X.ob))
  (hap2 : ∀ b ∈ F2', ∀ m d, lk m st.pl = some d → b ∉ (G m).blocks) (hsk : sk u = sk y.ty) {r : ODyn} {k : T r.ty} (hset : setP ⟨d.ty, some d.val⟩ p ⟨u, some z⟩ = some r) (hk : r.val = some k) {o : Nat} (ho : offP d.ty p = some (o, y.ty)) (hu0 : u.size ≠ 0) :
  (∃ A M Z c, Blk w b c ∧ c.toList = A ++ M ++ Z ∧ A.length = off + o ∧ M.length = mid'.length) ∧ ∃ G', Inv X (applyU [(n, .set ⟨r.ty, k⟩)] st) a (w.setCells b (off + o) mid') B G' ∧ (∀ m, m ≠ n → G' m = G m) ∧ (G' n).addr = (G n).addr := by
 obtain ⟨hR, hA⟩ := h.pl n d hd
 rw [hg] at hA
 obtain ⟨hrows, c, hblk⟩ := hA
 obtain ⟨o', pre, mid, post, F1, F2, F3, ho', hc, hl, hF, hm, hrep⟩ := getP_rel p d.ty d.val y v _ _ hget hv hR
 rw [ho] at ho'
 simp only [Option.some.injEq, Prod.mk.injEq] at ho'
 obtain ⟨rfl, _⟩ := ho'
 obtain ⟨hnd, hsep⟩ := h.sep n d hd
 have hbB : ¬ B b := (hsep b (by unfold PG.blocks; rw [hg]; simp)).1
 have hbn : b ∈ (G n).blocks := by unfold PG.blocks; rw [hg]; simp
 have hbF : b ∉ (G n).F := by unfold PG.blocks at hnd; rw [hg] at hnd; exact (List.nodup_cons.1 hnd).1
 have hml : mid.length = mid'.length := by rw [Rel_length w B _ _ _ _ hm, Rel_length w B _ _ _ _ hz, size_of_sk hsk]
 have hmne : mid ≠ [] := by
  intro e
  rw [e] at hml
  rw [Rel_length w B _ _ _ _ hz] at hml
  exact hu0 hml.symm
 obtain ⟨A0, Z0, hcl, hA0⟩ := rows_split hblk hrows (.inl (by rw [hc]; simp [hmne]))
 have hcl2 : c.toList = (A0 ++ pre) ++ mid ++ (post ++ Z0) := by rw [hcl, hc]; simp
 have hAl : (A0 ++ pre).length = off + o := by simp [hA0, hl]
 refine ⟨⟨_, _, _, c, hblk, hcl2, hAl, hml⟩, ?_⟩
 obtain ⟨ty, fr, hheap, hfr⟩ := hblk
 obtain ⟨c', hheap', hcl'⟩ := setCells_ok b mid' (off + o) w c _ _ _ hheap hcl2 hAl hml
 obtain ⟨hsz', htape, hos, hout, hdr⟩ := setCells_rest b mid' (off + o) w
 have hcsz : c'.size = c.size := by rw [← Array.length_toList, ← Array.length_toList, hcl', hcl2]; simp [hml]
 have hblk' : Blk (w.setCells b (off + o) mid') b c' := ⟨ty, fr, hheap', fun i hi => hfr i (by rw [← hcsz]; exact hi)⟩
 have hother : ∀ b', b' ≠ b → Same w (w.setCells b (off + o) mid') b' := fun b' hb' => setCells_other b mid' (off + o) w b' hb'
 have hBsame : ∀ b', B b' → Same w (w.setCells b (off + o) mid') b' := fun b' hb' => hother b' (fun e => hbB (e ▸ hb'))
 have hF2b : ∀ b' ∈ F2', b' ≠ b := fun b' hb' e => hap2 b' hb' n d hd (e ▸ hbn)
 have hFb : ∀ b' ∈ (G n).F, b' ≠ b := fun b' hb' e => hbF (e ▸ hb')
 have hz' : Rel (w.setCells b (off + o) mid') B u z mid' F2' := Rel_same hBsame (fun _ h => h) _ _ _ _ hz (fun b' hb' => hother b' (hF2b b' hb'))
 have hF13 : ∀ b' ∈ F1 ++ F3, b' ∈ (G n).F := fun b' hb' => by rw [hF]; rcases List.mem_append.1 hb' with h | h <;> simp [h]
 have hR' := hrep (w.setCells b (off + o) mid') B hBsame (fun _ h => h) (fun b' hb' => hother b' (hFb b' (hF13 b' hb'))) u z mid' F2' r k hz' hset hk
 have hskr : sk r.ty = sk d.ty := setP_sk p ⟨d.ty, some d.val⟩ y ⟨u, some z⟩ r hget hset hsk
 let g' : PG := ⟨some (b, off), pre ++ mid' ++ post, F1 ++ F2' ++ F3⟩
 have hlk : ∀ m d', lk m (applyU [(n, .set ⟨r.ty, k⟩)] st).pl = some d' → (m = n ∧ d' = ⟨r.ty, k⟩) ∨ (m ≠ n ∧ lk m st.pl = some d') := by
  intro m d' hm
  have hm : lk m (Pv.put n (⟨r.ty, k⟩ : Dyn) st.pl) = some d' := hm
  rw [lk_put] at hm
  split at hm
  ·rename_i e; exact .inl ⟨e, (Option.some.inj hm).symm⟩
  ·rename_i e; exact .inr ⟨e, hm⟩
 have hgb : ∀ b' ∈ g'.blocks, b' ∈ (G n).blocks ∨ b' ∈ F2' := by
  intro b' hb'
  rcases List.mem_cons.1 hb' with rfl | hb'
  ·exact .inl hbn
  ·rcases List.mem_append.1 hb' with hb' | hb'
   ·rcases List.mem_append.1 hb' with hb' | hb'
    ·exact .inl (PG.mem_blocks (hF13 b' (by simp [hb'])))
    ·exact .inr hb'
   ·exact .inl (PG.mem_blocks (hF13 b' (by simp [hb'])))
 have hFn := PG.F_nodup hnd
 rw [hF] at hFn
 have hn1 := List.nodup_append.1 hFn
 have hn2' := List.nodup_append.1 hn1.1
 refine ⟨setG G n g', ?_, fun m hm => setG_ne G g' hm, by rw [setG_same]; exact hg.symm⟩
 refine h.move [(n, .set ⟨r.ty, k⟩)] _ B (setG G n g') (by omega) ⟨htape, hos, hout, fun _ => hdr⟩ (fun b' hb' => ⟨hBsame b' hb', hb'⟩) (fun b' hb' => by rw [hsz']; exact h.bsz b' hb') (fun _ _ h => .inl h)
  (fun b' hb' hno => hother b' (fun e => hno (e ▸ (hsep b hbn).2 (e ▸ hb')))) ?_ ?_ (fun m hm => setG_ne G g' (by simpa [updNames] using hm)) ?_ ?_ ?_ (by simp [Upd.isDel])
 ·intro m d' hm
  rcases hlk m d' hm with ⟨rfl, rfl⟩ | ⟨hne, hm⟩
  ·rw [setG_same]
   refine ⟨⟨hR', ?_, c', hblk'⟩, ?_, ?_⟩
   ·intro i v' hi
    have hi : (pre ++ mid' ++ post)[i]? = some v' := hi
    show (w.setCells b (off + o) mid').cell? ⟨b, off + i, none⟩ = some v'
    rw [hblk'.cell, ← Array.getElem?_toList, hcl', show A0 ++ pre ++ mid' ++ (post ++ Z0) = A0 ++ ((pre ++ mid' ++ post) ++ Z0) by simp, List.getElem?_append_right (by omega), show off + i - A0.length = i by omega,
     List.getElem?_append_left (List.getElem?_eq_some_iff.1 hi).1]
    exact hi
   ·show (b :: (F1 ++ F2' ++ F3)).Nodup
    refine List.nodup_cons.2 ⟨fun hb' => ?_, ?_⟩
    ·rcases List.mem_append.1 hb' with hb' | hb'
     ·rcases List.mem_append.1 hb' with hb' | hb'
      ·exact hFb b (hF13 b (by simp [hb'])) rfl
      ·exact hF2b b hb' rfl
     ·exact hFb b (hF13 b (by simp [hb'])) rfl
    ·have hd2 : ∀ x ∈ F1 ++ F3, x ∉ F2' := fun x hx hx2 => hap2 x hx2 m d hd (PG.mem_blocks (hF13 x hx))
     refine List.nodup_append.2 ⟨List.nodup_append.2 ⟨hn2'.1, hn2, fun x hx y hy e => hd2 x (by simp [hx]) (e ▸ hy)⟩, hn1.2.1, fun x hx y hy e => ?_⟩
     rcases List.mem_append.1 hx with hx | hx
     ·exact hn1.2.2 x (List.mem_append.2 (.inl hx)) y hy e
     ·exact hd2 y (by simp [hy]) (e ▸ hx)
   ·intro b' hb'
    rcases hgb b' hb' with hb' | hb'
    ·exact hsep b' hb'
    ·exact ⟨(hs2 b' hb').1, (hs2 b' hb').2.2⟩
  ·rw [setG_ne G g' hne]
   obtain ⟨h1, h2⟩ := h.pl m d' hm
   have hmb : ∀ b' ∈ (G m).blocks, b' ≠ b := fun b' hb' e => h.apart m n d' d hm hd hne b' hb' (e ▸ hbn)
   refine ⟨⟨Rel_same hBsame (fun _ h => h) _ _ _ _ h1 (fun b' hb' => hother b' (hmb b' (PG.mem_blocks hb'))), ?_⟩, h.sep m d' hm⟩
   split
   ·trivial
   ·rename_i ad hgm
    rw [hgm] at h2
    obtain ⟨k1, c2, k2⟩ := h2
    have hne2 := hother ad.1 (hmb ad.1 (by unfold PG.blocks; rw [hgm]; simp))
    exact ⟨k1.same hne2, c2, k2.same hne2⟩
 ·intro m m' d1 d2 h1 h2 hne b' hb' hb''
  rcases hlk m d1 h1 with ⟨e1, _⟩ | ⟨hne1, k1⟩
  ·rcases hlk m' d2 h2 with ⟨e2, _⟩ | ⟨hne2, k2⟩
   ·exact hne (e1.trans e2.symm)
   ·rw [e1, setG_same] at hb'; rw [setG_ne G g' hne2] at hb''
    rcases hgb b' hb' with hb' | hb'
    ·exact h.apart n m' d d2 hd k2 (fun e => hne2 e.symm) b' hb' hb''
    ·exact hap2 b' hb' m' d2 k2 hb''
  ·rw [setG_ne G g' hne1] at hb'
   rcases hlk m' d2 h2 with ⟨e2, _⟩ | ⟨hne2, k2⟩
   ·rw [e2, setG_same] at hb''
    rcases hgb b' hb'' with hb'' | hb''
    ·exact h.apart m n d1 d k1 hd hne1 b' hb' hb''
    ·exact hap2 b' hb'' m d1 k1 hb'
   ·rw [setG_ne G g' hne2] at hb''
    exact h.apart m m' d1 d2 k1 k2 hne b' hb' hb''
 ·intro u' hu'
  rw [List.mem_singleton] at hu'
  subst hu'
  right
  simp only [setG_same]
  exact ⟨hg.symm, ⟨d, ⟨r.ty, k⟩, hd, by show lk n (Pv.put n _ st.pl) = _; rw [lk_put]; simp, hskr⟩, .inl rfl⟩
 ·intro k' d' hk'
  rcases hlk _ d' hk' with ⟨e, rfl⟩ | ⟨hne, hm⟩
  ·subst e
   rw [setG_same]
   obtain ⟨b1, o1, s, h1, h2, h3⟩ := h.obj k' d hd
   rw [hg] at h2
   exact ⟨b1, o1, s, h1, h2, by show r.ty.size = s; rw [size_of_sk hskr, h3]⟩
  ·rw [setG_ne G g' hne]
   exact h.obj k' d' hm
 ·intro k' b2 o2 s2 ho2 i hi
  by_cases e : b2 = b
  ·subst e
   obtain ⟨d2, hd2⟩ := h.objL k' b2 o2 s2 ho2
   obtain ⟨b3, o3, s3, h1, h2, h3⟩ := h.obj k' d2 hd2
   rw [ho2] at h1
   simp only [Option.some.injEq, Prod.mk.injEq] at h1
   obtain ⟨rfl, rfl, rfl⟩ := h1
   have hkn : objName k' = n := by
    rcases Decidable.em (objName k' = n) with e | e
    ·exact e
    ·exact absurd hbn (h.apart _ _ d2 d hd2 hd e b2 (by unfold PG.blocks; rw [h2]; simp))
   rw [hkn] at hd2 h2
   rw [hd] at hd2
   obtain rfl := Option.some.inj hd2
   rw [hg] at h2
   simp only [Option.some.injEq, Prod.mk.injEq, true_and] at h2
   subst h2
   have hlen := Rel_length w B _ _ _ _ hR
   rw [hc] at hlen
   simp only [List.length_append] at hlen
   exact World.cell?_setCells_out b2 mid' (off + o) w _ (fun _ _ => by simp only; omega)
  ·exact (hother b2 e).cell i

end
end
end Go.Pv

namespace Go.Pv
noncomputable section
universe u v

theorem getF_has : ∀ (t : Ty) (x : T t) (i : Nat) (y : ODyn), getF t (some x) i = some y → ∃ v, y.val = some v := by
 intro t
 induction t with
 | pair a b iha ihb =>
  intro x i y h
  cases i with
  | zero =>
   simp only [getF, Option.some.injEq] at h
   subst h
   exact ⟨_, rfl⟩
  | succ i => exact ihb x.2 i y (by simpa only [getF, Option.map_some] using h)
 | _ => intro x i y h; simp [getF] at h

theorem setP_none : ∀ (p : Path) (dd : ODyn) (r : ODyn) (u : Ty), setP dd p ⟨u, none⟩ = some r → r.val = none := by
 intro p
 induction p with
 | nil => intro dd r u h; simp only [setP, Option.some.injEq] at h; subst h; rfl
 | cons s p ih =>
  intro dd r u h
  simp only [setP] at h
  obtain ⟨d1, _, h⟩ := bind_some h
  obtain ⟨r1, hr1, h⟩ := bind_some h
  obtain ⟨t1, v1⟩ := r1
  have := ih d1 _ u hr1
  have this : v1 = none := this
  subst this
  obtain ⟨td, xd⟩ := dd
  exact setS_none td xd s t1 r h

theorem getP_has : ∀ (p : Path) (t : Ty) (x : T t) (y r old : ODyn) (k : T r.ty), setP ⟨t, some x⟩ p y = some r → r.val = some k → getP ⟨t, some x⟩ p = some old → ∃ v, old.val = some v
 | [], t, x, y, r, old, k, _, _, hg => by
  simp only [getP, Option.some.injEq] at hg
  subst hg
  exact ⟨x, rfl⟩
 | s :: p, t, x, y, r, old, k, hs, hk, hg => by
  simp only [getP] at hg
  simp only [setP] at hs
  obtain ⟨y1, hy1, hg⟩ := bind_some hg
  rw [hy1] at hs
  simp only [Option.bind_some] at hs
  obtain ⟨r1, hr1, hs3⟩ := bind_some hs
  obtain ⟨t1, v1⟩ := y1
  cases v1 with
  | some v1 =>
   obtain ⟨tr, vr⟩ := r1
   cases vr with
   | none => rw [setS_none t (some x) s tr r hs3] at hk; cases hk
   | some vr => exact getP_has p t1 v1 y ⟨tr, some vr⟩ old vr hr1 rfl hg
  | none =>
   exfalso
   cases t with
   | agg t =>
    cases s with
    | fld i =>
     have hy1 : getF t (some x) i = some ⟨t1, none⟩ := by cases t <;> exact hy1
     obtain ⟨v, hv⟩ := getF_has t x i _ hy1
     cases hv
    | idx i =>
     cases t with
     | arr n e =>
      simp only [getS, Option.bind_some, Option.some.injEq, ODyn.mk.injEq] at hy1
      obtain ⟨rfl, hy1⟩ := hy1
      have hy1 : rdI (α := T e) x i = none := eq_of_heq hy1
      simp only [setS] at hs3
      split at hs3
      ·simp only [Option.some.injEq] at hs3
       subst hs3
       simp only [Option.bind_some] at hk
       obtain ⟨w, _, hk⟩ := bind_some hk
       obtain ⟨h0, hi, _⟩ := stI_some hk
       simp [rdI, h0, hi] at hy1
      ·cases hs3
     | _ => simp [getS] at hy1
   | _ => cases s <;> simp [getS] at hy1

section
variable {X : Cx} {st : St} {a : Act} {w : World} {B : Nat → Prop} {G : Nat → PG} {E : Operand → Option EV}

theorem Inv.storeEl (h : Inv X st a w B G) {n : Nat} {d : Dyn} (hd : lk n st.pl = some d) {p : Path} {e : Ty} {xs : List (T e)} (hget : getP ⟨d.ty, some d.val⟩ p = some ⟨.own e, some xs⟩) (hp : e.pure = true)
  {o len cap b : Nat} (ho : offP d.ty p = some (o, .own e)) (hsl : (G n).cells[o]? = some (.slice (some ⟨b, 0, none⟩) len cap)) {i : Int} {q : Path} {qo : Nat} {old : ODyn} (hq : offP e q = some (qo, old.ty)) {xv : T e} (hx : rdI xs i = some xv)
  (hold : getP ⟨e, some xv⟩ q = some old) {ov : T old.ty} (hov : old.val = some ov) {u : Ty} {z : T u} {mid' : List Value} (hz : Rel w B u z mid' []) (hsk : sk u = sk old.ty) {zr : T e} (hset : setP ⟨e, some xv⟩ q ⟨u, some z⟩ = some ⟨e, some zr⟩)
  {r : ODyn} {k : T r.ty} (hset2 : setP ⟨d.ty, some d.val⟩ p ⟨.own e, some (xs.set i.toNat zr)⟩ = some r) (hk : r.val = some k) :
  (∃ A M Z c, Blk w b c ∧ c.toList = A ++ M ++ Z ∧ A.length = i.toNat * e.size + qo ∧ M.length = mid'.length) ∧ Inv X (applyU [(n, .keep ⟨r.ty, k⟩)] st) a (w.setCells b (i.toNat * e.size + qo) mid') B G := by
 obtain ⟨hR, hA⟩ := h.pl n d hd
 obtain ⟨o', pre, mid, post, F1, F2, F3, ho', hc, hl, hF, hm, hrep⟩ := getP_rel p d.ty d.val _ xs _ _ hget rfl hR
 rw [ho] at ho'
 simp only [Option.some.injEq, Prod.mk.injEq, and_true] at ho'
 subst ho'
 obtain ⟨hnd, hsep⟩ := h.sep n d hd
 obtain ⟨sv, hmid, hown⟩ := hm
 subst hmid
 rw [hc, List.append_assoc, List.getElem?_append_right (by omega), hl, Nat.sub_self] at hsl
 simp only [List.cons_append, List.nil_append, List.getElem?_cons_zero, Option.some.injEq] at hsl
 subst hsl
 obtain ⟨h0, hi⟩ := rdI_some hx
 rcases hown with ⟨_, hbad, _⟩ | ⟨b', cap', c, F', hsv, h1, h2, hblk, h4, h5, h6⟩
 ·cases hbad
 simp only [Value.slice.injEq, Option.some.injEq, Addr.mk.injEq, and_true] at hsv
 obtain ⟨rfl, rfl, rfl⟩ := hsv
 have hF' : F' = [] := RelL_F (fun x cs F hx => Rel_pure w B e x cs F hp hx) _ _ _ h5
 subst hF'
 obtain ⟨c1, c2, c3, G1, G2, G3, e1, e2, e3, e4, e5⟩ := RelL_split (fun x cs F h => Rel_length w B e x cs F h) xs _ _ _ xv h5 hi
 have hGs := e2.symm
 simp only [List.append_eq_nil_iff] at hGs
 obtain ⟨⟨rfl, rfl⟩, rfl⟩ := hGs
 obtain ⟨o2, pre2, mid2, post2, H1, H2, H3, k1, k2, k3, k4, k5, k6⟩ := getP_rel q e xv old ov c2 [] hold hov e4
 rw [hq] at k1
 simp only [Option.some.injEq, Prod.mk.injEq, and_true] at k1
 subst k1
 have hHs := k4.symm
 simp only [List.append_eq_nil_iff] at hHs
 obtain ⟨⟨rfl, rfl⟩, rfl⟩ := hHs
 have hml : mid2.length = mid'.length := by rw [Rel_length w B _ _ _ _ k5, Rel_length w B _ _ _ _ hz, size_of_sk hsk]
 have hbn : b ∈ (G n).blocks := PG.mem_blocks (by rw [hF, h6]; simp)
 have hbB : ¬ B b := (hsep b hbn).1
 have hct : c.toList = (c1 ++ pre2) ++ mid2 ++ (post2 ++ c3 ++ c.toList.drop (xs.length * e.size)) := by
  conv => lhs; rw [← List.take_append_drop (xs.length * e.size) c.toList, e1, k2]
  simp
 have hAl : (c1 ++ pre2).length = i.toNat * e.size + qo := by simp [e3, k3]
 refine ⟨⟨_, _, _, c, hblk, hct, hAl, hml⟩, ?_⟩
 obtain ⟨ty, fr, hheap, hfr⟩ := hblk
 obtain ⟨c', hheap', hcl'⟩ := setCells_ok b mid' (i.toNat * e.size + qo) w c _ _ _ hheap hct hAl hml
 obtain ⟨hsz', htape, hos, hout, hdr⟩ := setCells_rest b mid' (i.toNat * e.size + qo) w
 have hcsz : c'.size = c.size := by
  have k1 := congrArg List.length hcl'
  have k2 := congrArg List.length hct
  simp only [List.length_append, Array.length_toList] at k1 k2
  omega
 have hblk' : Blk (w.setCells b (i.toNat * e.size + qo) mid') b c' := ⟨ty, fr, hheap', fun i hi => hfr i (by rw [← hcsz]; exact hi)⟩
 have hother : ∀ b', b' ≠ b → Same w (w.setCells b (i.toNat * e.size + qo) mid') b' := fun b' hb' => setCells_other b mid' _ w b' hb'
 have hBsame : ∀ b', B b' → Same w (w.setCells b (i.toNat * e.size + qo) mid') b' := fun b' hb' => hother b' (fun e => hbB (e ▸ hb'))
 have hFn := PG.F_nodup hnd
 rw [hF, h6] at hFn
 have hn1 := List.nodup_append.1 hFn
 have hn2 := List.nodup_append.1 hn1.1
 have hF13 : ∀ x ∈ F1 ++ F3, x ≠ b := by
  intro x hx e
  subst e
  rcases List.mem_append.1 hx with hx | hx
  ·exact hn2.2.2 x hx x (by simp) rfl
  ·exact hn1.2.2 x (by simp) x hx rfl
 have hel : Rel (w.setCells b (i.toNat * e.size + qo) mid') B e zr (pre2 ++ mid' ++ post2) [] := by
  have := k6 _ B hBsame (fun _ h => h) (by simp) u z mid' [] ⟨e, some zr⟩ zr (Rel_same hBsame (fun _ h => h) _ _ _ _ hz (by simp)) hset rfl
  simpa using this
 have hrow := e5 (Rel (w.setCells b (i.toNat * e.size + qo) mid') B e) zr (pre2 ++ mid' ++ post2) [] (fun x cs F hx hF => Rel_same hBsame (fun _ h => h) _ _ _ _ hx (fun b hb => by have := hF b hb; simp at this)) hel
 have hown' : Rel (w.setCells b (i.toNat * e.size + qo) mid') B (.own e) (xs.set i.toNat zr) [.slice (some ⟨b, 0, none⟩) xs.length cap] F2 := by
  refine ⟨_, rfl, .inr ⟨b, cap, c', [], by simp, by simpa using h1, h2, hblk', by rw [hcsz, h4], ?_, h6⟩⟩
  have hll : (c1 ++ (pre2 ++ mid' ++ post2) ++ c3).length = xs.length * e.size := by
   have hcl : (c.toList.take (xs.length * e.size)).length = xs.length * e.size := by
    have hcc : c.toList.length = cap * e.size := by rw [← h4]; simp
    rw [List.length_take, hcc]; exact Nat.min_eq_left (Nat.mul_le_mul_right _ h1)
   rw [e1, k2] at hcl
   simp only [List.length_append] at hcl ⊢
   omega
  rw [hcl', List.length_set, show c1 ++ pre2 ++ mid' ++ (post2 ++ c3 ++ c.toList.drop (xs.length * e.size)) = (c1 ++ (pre2 ++ mid' ++ post2) ++ c3) ++ c.toList.drop (xs.length * e.size) by simp, ← hll, List.take_left']
  ·simpa using hrow
  ·rfl
 have hR' := hrep (w.setCells b (i.toNat * e.size + qo) mid') B hBsame (fun _ h => h) (fun b' hb' => hother b' (hF13 b' hb')) (.own e) (xs.set i.toNat zr) _ F2 r k hown' hset2 hk
 rw [← hc, ← hF] at hR'
 have hskr : sk r.ty = sk d.ty := setP_sk p ⟨d.ty, some d.val⟩ _ _ r hget hset2 rfl
 have hlk : ∀ m d', lk m (applyU [(n, .keep ⟨r.ty, k⟩)] st).pl = some d' → (m = n ∧ d' = ⟨r.ty, k⟩) ∨ (m ≠ n ∧ lk m st.pl = some d') := by
  intro m d' hm
  have hm : lk m (Pv.put n (⟨r.ty, k⟩ : Dyn) st.pl) = some d' := hm
  rw [lk_put] at hm
  split at hm
  ·rename_i e; exact .inl ⟨e, (Option.some.inj hm).symm⟩
  ·rename_i e; exact .inr ⟨e, hm⟩
 have haddr : ∀ ad, (G n).addr = some ad → ad.1 ≠ b := by
  intro ad had e
  unfold PG.blocks at hnd
  rw [had] at hnd
  exact (List.nodup_cons.1 hnd).1 (by rw [e, hF, h6]; simp)
 refine h.move [(n, .keep ⟨r.ty, k⟩)] _ B G (by omega) ⟨htape, hos, hout, fun _ => hdr⟩ (fun b' hb' => ⟨hBsame b' hb', hb'⟩) (fun b' hb' => by rw [hsz']; exact h.bsz b' hb') (fun _ _ h => .inl h)
  (fun b' hb' hno => hother b' (fun e => hno (e ▸ (hsep b hbn).2 (e ▸ hb')))) ?_ ?_ (fun _ _ => rfl) ?_ ?_ ?_ (by simp [Upd.isDel])
 ·intro m d' hm
  rcases hlk m d' hm with ⟨rfl, rfl⟩ | ⟨hne, hm⟩
  ·refine ⟨⟨hR', ?_⟩, hnd, hsep⟩
   split
   ·trivial
   ·rename_i ad hgm
    rw [hgm] at hA
    obtain ⟨k1, c2, k2⟩ := hA
    have hne2 := hother ad.1 (haddr ad hgm)
    exact ⟨k1.same hne2, c2, k2.same hne2⟩
  ·obtain ⟨h1, h2⟩ := h.pl m d' hm
   have hmb : ∀ b' ∈ (G m).blocks, b' ≠ b := fun b' hb' e => h.apart m n d' d hm hd hne b' hb' (e ▸ hbn)
   refine ⟨⟨Rel_same hBsame (fun _ h => h) _ _ _ _ h1 (fun b' hb' => hother b' (hmb b' (PG.mem_blocks hb'))), ?_⟩, h.sep m d' hm⟩
   split
   ·trivial
   ·rename_i ad hgm
    rw [hgm] at h2
    obtain ⟨k1, c2, k2⟩ := h2
    have hne2 := hother ad.1 (hmb ad.1 (by unfold PG.blocks; rw [hgm]; simp))
    exact ⟨k1.same hne2, c2, k2.same hne2⟩
 ·intro m m' d1 d2 h1 h2 hne
  have e1 : ∃ d, lk m st.pl = some d := by
   rcases hlk m d1 h1 with ⟨rfl, _⟩ | ⟨_, h⟩
   ·exact ⟨d, hd⟩
   ·exact ⟨_, h⟩
  have e2 : ∃ d, lk m' st.pl = some d := by
   rcases hlk m' d2 h2 with ⟨rfl, _⟩ | ⟨_, h⟩
   ·exact ⟨d, hd⟩
   ·exact ⟨_, h⟩
  obtain ⟨x1, e1⟩ := e1
  obtain ⟨x2, e2⟩ := e2
  exact h.apart m m' x1 x2 e1 e2 hne
 ·intro u' hu'
  rw [List.mem_singleton] at hu'
  subst hu'
  exact .inr ⟨rfl, ⟨d, ⟨r.ty, k⟩, hd, by show lk n (Pv.put n _ st.pl) = _; rw [lk_put]; simp, hskr⟩, .inr (.inl rfl)⟩
 ·intro k' d' hk'
  rcases hlk _ d' hk' with ⟨e, rfl⟩ | ⟨hne, hm⟩
  ·subst e
   obtain ⟨b1, o1, s, h1, h2, h3⟩ := h.obj k' d hd
   exact ⟨b1, o1, s, h1, h2, by show r.ty.size = s; rw [size_of_sk hskr, h3]⟩
  ·exact h.obj k' d' hm
 ·intro k' b2 o2 s2 ho2 i' _
  refine (hother b2 ?_).cell i'
  intro e
  subst e
  obtain ⟨d2, hd2⟩ := h.objL k' b2 o2 s2 ho2
  obtain ⟨b3, o3, s3, h1, h2, _⟩ := h.obj k' d2 hd2
  rw [ho2] at h1
  simp only [Option.some.injEq, Prod.mk.injEq] at h1
  obtain ⟨rfl, rfl, rfl⟩ := h1
  by_cases hkn : objName k' = n
  ·rw [hkn] at h2
   exact haddr _ h2 rfl
  ·exact h.apart _ _ d2 d hd2 hd hkn b2 (by unfold PG.blocks; rw [h2]; simp) hbn

theorem any_names {U : Upds} {n : Nat} (h : ((updNames U).any fun m => Nat.beq n m) = false) : n ∉ updNames U := by
 intro hm
 have := List.any_eq_false.1 h n hm
 simp at this

theorem op_store (h : Inv X st a w B G) (hE : EOk X st a w B G E) {o : Oper} {t : TypeId} {za zx : Operand} (ho : o.op = .store t za zx) {Γ : Nat → Option CSem} {dst : Nat} {r : ORes} (he : evalOp X.P Γ (look st) E dst (.store t za zx) o.type = some r) {x : r.α} (hx : r.run = some x) :
  Does X st a w o (r.out x).ev (r.out x).upd := by
 simp only [evalOp] at he
 obtain ⟨ea, hea, he⟩ := bind_some he
 obtain ⟨ex, hex, he⟩ := bind_some he
 obtain ⟨ex', hfx, he⟩ := bind_some he
 have hva := hE za ea hea
 have hvx := fix_ok (hE zx ex hex) hfx
 split at he
 ·rename_i n p _ _
  obtain ⟨⟨y, U⟩, hy, he⟩ := bind_some he
  split at he
  ·rename_i hk
   simp only [Bool.and_eq_true, Bool.not_eq_true'] at hk
   obtain ⟨d, hd, he⟩ := bind_some he
   obtain ⟨old, hold, he⟩ := bind_some he
   split at he
   ·rename_i hsk
    obtain ⟨rr, hrr, rfl⟩ := Option.map_eq_some_iff.1 he
    have hx : rr.val = some x := hx
    have hd : lk n st.pl = some d := hd
    obtain ⟨ty, yv⟩ := y
    cases yv with
    | none =>
     rw [setP_none p _ rr ty hrr] at hx
     cases hx
    | some yv =>
     obtain ⟨ov, hov⟩ := getP_has p d.ty d.val ⟨ty, some yv⟩ rr old x hrr hx hold
     obtain ⟨B', G', F, hI, hv, hB, hF, hFs, hFap, hkeep, hEV⟩ := mv_ok h hvx hy rfl
     have hnn : n ∉ updNames U := any_names hk.2
     obtain ⟨hd', hG'⟩ := hkeep n d hnn hd
     simp only [EVR] at hva
     obtain ⟨d1, o1, u1, b, off, hd1, ho1, hg, hvv⟩ := hva
     have hd1 : lk n st.pl = some d1 := hd1
     rw [hd] at hd1
     obtain rfl := Option.some.inj hd1
     obtain ⟨oo, hoo⟩ := getP_off p _ _ hold
     rw [ho1] at hoo
     simp only [Option.some.injEq, Prod.mk.injEq] at hoo
     obtain ⟨rfl, rfl⟩ := hoo
     have h0 : ty.size ≠ 0 := fun e => by have := hk.1.2; simp only at this; rw [e] at this; simp at this
     obtain ⟨⟨A, M, Z, c, hb1, hb2, hb3, hb4⟩, G2, hI2, _, _⟩ := hI.store hd' (by rw [hG']; exact hg) hold hov hv.1 hF hFs hFap hsk.symm hrr hx ho1 h0
     rw [← applyU_append] at hI2
     refine Does.skip ?_ hI2
     have hrun := run_storeAt (P := X.P) hb1 hb2 hb3 hb4 (Rel_plain w B' _ _ _ _ hv.1) hk.1.1 (Rel_length w B' _ _ _ _ hv.1)
     simp [execOp, ho, hvv, Instr.storeAt, Instr.sureAddr, hrun]
   ·cases he
  ·split at he
   ·rename_i hk
    simp only [Bool.and_eq_true] at hk
    obtain rfl := Option.some.inj he
    have hx : y.val = some x := hx
    obtain ⟨ty, yv⟩ := y
    have hx : yv = some x := hx
    obtain ⟨B', G', F, hI, hv, _⟩ := mv_ok h hvx hy hx
    simp only [EVR] at hva
    obtain ⟨d1, o1, u1, b, off, hd1, ho1, hg, hvv⟩ := hva
    have hl := Rel_length w B' _ _ _ _ hv.1
    have h0 : ty.size = 0 := Nat.eq_of_beq_eq_true hk.2
    have hcs : (a.eval zx).cells.toList = [] := List.eq_nil_of_length_eq_zero (by rw [hl, h0])
    refine Does.skip (w' := w) ?_ hI
    have hv2 : (a.eval zx).cells.size = ty.size := by rw [← hl]; simp
    have hrun : (storeVar t ⟨b, off + o1, none⟩ (a.eval zx)).run X.P w = .ok () w := by
     simp only [storeVar, Sem.run_bind, run_sizeOf hk.1, Result.andThen_ok, Sem.run_ite, hv2, ne_eq, not_true_eq_false, if_false, hcs]
     rfl
    simp [execOp, ho, hvv, Instr.storeAt, Instr.sureAddr, hrun]
   ·cases he
 ·rename_i n p e0 i q _ _
  obtain ⟨⟨y, U⟩, hy, he⟩ := bind_some he
  split at he
  ·rename_i hk
   simp only [Bool.and_eq_true, Bool.not_eq_true'] at hk
   obtain ⟨d, hd, he⟩ := bind_some he
   obtain ⟨yy, hyy, he⟩ := bind_some he
   split at he
   ·rename_i e xs
    split at he
    ·rename_i he0
     obtain ⟨rfl, hep⟩ := he0
     obtain ⟨old, hold, he⟩ := bind_some he
     split at he
     ·rename_i hsk
      obtain ⟨z, hz, he⟩ := bind_some he
      split at he
      ·rename_i hze
       obtain ⟨rr, hrr, rfl⟩ := Option.map_eq_some_iff.1 he
       have hx : rr.val = some x := hx
       have hd : lk n st.pl = some d := hd
       obtain ⟨zt, zv⟩ := z
       have hze : zt = e0 := hze
       subst hze
       have hw : ∃ xv zr, rdI xs i = some xv ∧ zv = some zr ∧ stI xs i zr = some (xs.set i.toNat zr) := by
        cases zv with
        | none =>
         exfalso
         rw [setP_none p _ rr _ hrr] at hx
         cases hx
        | some zr =>
         have hrr' : setP ⟨d.ty, some d.val⟩ p ⟨.own zt, stI xs i zr⟩ = some rr := hrr
         cases hst : stI xs i zr with
         | none =>
          rw [hst] at hrr'
          rw [setP_none p _ rr _ hrr'] at hx
          cases hx
         | some ys =>
          obtain ⟨h0, hi, rfl⟩ := stI_some hst
          exact ⟨xs[i.toNat], zr, by simp [rdI, h0, hi], rfl, hst⟩
       obtain ⟨xv, zr, hxv, rfl, hst⟩ := hw
       have hrr' : setP ⟨d.ty, some d.val⟩ p ⟨.own zt, some (xs.set i.toNat zr)⟩ = some rr := by
        have hrr' : setP ⟨d.ty, some d.val⟩ p ⟨.own zt, stI xs i zr⟩ = some rr := hrr
        rw [hst] at hrr'; exact hrr'
       rw [hxv] at hold hz
       obtain ⟨ty, yv⟩ := y
       cases yv with
       | none => have := setP_none q _ _ _ hz; cases this
       | some yv =>
       obtain ⟨ov, hov⟩ := getP_has q zt xv ⟨ty, some yv⟩ ⟨zt, some zr⟩ old zr hz rfl hold
       obtain ⟨B', G', hI, hpu, hv, hB, hkeep, hEV⟩ := take_ok h hvx hy rfl
       have hnn : n ∉ updNames U := any_names hk.2
       obtain ⟨hd', hG'⟩ := hkeep n d hnn hd
       simp only [EVR] at hva
       obtain ⟨d1, o1, u1, b, len, cap, qo, qu, hd1, ho1, hg, hq, hvv⟩ := hva
       have hd1 : lk n st.pl = some d1 := hd1
       rw [hd] at hd1
       obtain rfl := Option.some.inj hd1
       obtain ⟨oo, hoo⟩ := getP_off p _ _ hyy
       rw [ho1] at hoo
       simp only [Option.some.injEq, Prod.mk.injEq] at hoo
       obtain ⟨rfl, rfl⟩ := hoo
       obtain ⟨o2, ho2⟩ := getP_off q _ _ hold
       rw [hq] at ho2
       simp only [Option.some.injEq, Prod.mk.injEq] at ho2
       obtain ⟨rfl, rfl⟩ := ho2
       obtain ⟨⟨A, M, Z, c, hb1, hb2, hb3, hb4⟩, hI2⟩ := hI.storeEl hd' hyy hep ho1 (by rw [hG']; exact hg) hq hxv hold hov hv.1 hsk.symm hz hrr' hx
       rw [← applyU_append] at hI2
       refine Does.skip ?_ hI2
       have hrun := run_storeAt (P := X.P) hb1 hb2 hb3 hb4 (Rel_plain w B' _ _ _ _ hv.1) hk.1.1 (Rel_length w B' _ _ _ _ hv.1)
       simp [execOp, ho, hvv, Instr.storeAt, Instr.sureAddr, hrun]
      ·cases he
     ·cases he
    ·cases he
   ·cases he
  ·cases he
 ·cases he

end
end
end Go.Pv
