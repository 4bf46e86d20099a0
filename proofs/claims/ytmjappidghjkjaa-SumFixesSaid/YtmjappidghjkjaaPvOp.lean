/- Single operations: what the machine does is what the plain run says. First part: those that leave the world alone. -/
import Derived.Test.YtmjappidghjkjaaPvInv
import Derived.Laws.Sem
import Derived.Laws.Cells
import Derived.Laws.World
import Derived.Laws.Append
import Derived.Laws.AppendOwn
namespace Go.Pv
noncomputable section

/-! ### values of one cell -/
theorem cells_one {v c : Value} (h : v.cells.toList = [c]) (ha : Value.agg? v = false) : v = c := by
  cases v <;> first | (simp [Value.agg?] at ha; done) | (simpa [Value.cells] using h)

theorem cells_agg {v : Value} (ha : Value.agg? v = true) : ∃ cs, v = .agg cs := by
  cases v <;> first | exact ⟨_, rfl⟩ | (simp [Value.agg?] at ha)

theorem VR.one {w : World} {B : Nat → Prop} {t : Ty} {x : T t} {v : Value} {F : List Nat} (h : VR w B t x v F) (ht : t.isAgg = false) (hs : t.size = 1) : v.cells = #[v] ∧ Rel w B t x [v] F := by
  have ha := h.2
  rw [ht] at ha
  have : v.cells = #[v] := by cases v <;> first | rfl | (simp [Value.agg?] at ha)
  exact ⟨this, by have := h.1; rw [‹v.cells = #[v]›] at this; exact this⟩

/-- data that a slot holds -/
theorem rd_ok {X : Cx} {st : St} {a : Act} {w : World} {B : Nat → Prop} {G : Nat → PG} (h : Inv X st a w B G) {e : EV} {v : Value} {t : Ty} {x : T t}
    (he : EVR (tv a) w B G (look st) e v) (hr : e.rd (look st) = some ⟨t, some x⟩) : ∃ F, VR w B t x v F := by
  cases e with
  | val d =>
    simp only [EV.rd, Option.some.injEq] at hr
    obtain ⟨ty, val⟩ := d
    simp only [ODyn.mk.injEq] at hr
    obtain ⟨rfl, hr⟩ := hr
    obtain rfl := Option.some.inj (eq_of_heq hr)
    simp only [EVR] at he
    exact ⟨[], he.2⟩
  | clip e xs =>
    simp only [EV.rd, Option.some.injEq, ODyn.mk.injEq] at hr
    obtain ⟨rfl, hr⟩ := hr
    obtain rfl := Option.some.inj (eq_of_heq hr)
    simp only [EVR] at he
    obtain ⟨_, a0, cap, cells, h1, h2, h3, h4, h5, h6, h7⟩ := he
    exact ⟨[], by subst h1; exact ⟨⟨rfl, _, rfl, a0, cap, cells, rfl, h2, h3, by simp, h5, h6, h7⟩, rfl⟩⟩
  | at_ n p =>
    simp only [EV.rd] at hr
    simp only [EVR] at he
    obtain ⟨d, o, u, hd, ho, hv, ha⟩ := he
    rw [hd] at hr
    simp only [Option.bind_some] at hr
    obtain ⟨hR, _⟩ := h.pl n d hd
    obtain ⟨o', pre, mid, post, F1, F2, F3, ho', hc, hl, hF, hm, _⟩ := getP_rel p d.ty d.val _ x _ _ hr rfl hR
    rw [ho] at ho'
    simp only [Option.some.injEq, Prod.mk.injEq] at ho'
    obtain ⟨rfl, rfl⟩ := ho'
    refine ⟨F2, ?_, ha⟩
    rw [hv, hc, List.append_assoc, List.drop_append_of_le_length (by omega), ← hl, List.drop_length, List.nil_append]
    have := Rel_length w B _ _ _ _ hm
    rw [← this, List.take_left']
    · exact hm
    · rfl
  | _ => simp [EV.rd] at hr

theorem int?_ok {X : Cx} {st : St} {a : Act} {w : World} {B : Nat → Prop} {G : Nat → PG} (h : Inv X st a w B G) {e : EV} {v : Value} {k : IntKind} {n : Int}
    (he : EVR (tv a) w B G (look st) e v) (hr : e.int? (look st) = some (k, some n)) : v = .int k n ∧ inR k n = true := by
  have key : ∀ e : EV, (∀ c, e ≠ .cst c) → EVR (tv a) w B G (look st) e v → ((e.rd (look st)).bind fun d => match d with | ⟨.int k, n⟩ => some (k, n) | _ => none) = some (k, some n) → v = .int k n ∧ inR k n = true := by
    intro e _ he hr
    cases hd : e.rd (look st) with
    | none => rw [hd] at hr; cases hr
    | some d =>
      rw [hd] at hr
      simp only [Option.bind_some] at hr
      split at hr
      · simp only [Option.some.injEq, Prod.mk.injEq] at hr
        obtain ⟨rfl, rfl⟩ := hr
        obtain ⟨F, hR, ha⟩ := rd_ok h he hd
        obtain ⟨h1, h2, h3⟩ := hR
        exact ⟨cells_one h1 ha, h2⟩
      · cases hr
  cases e with
  | cst c =>
    cases c with
    | int k' n' =>
      simp only [EV.int?] at hr
      split at hr
      · simp only [Option.some.injEq, Prod.mk.injEq] at hr
        obtain ⟨rfl, rfl⟩ := hr
        simp only [EVR] at he
        exact ⟨he, by assumption⟩
      · cases hr
    | _ => simp [EV.int?, EV.rd] at hr
  | _ => exact key _ (by intro c hc; cases hc) he hr

/-! ### constants -/
theorem inR_zero (k : IntKind) : inR k 0 = true := by cases k <;> decide

theorem zc_rel {w : World} {B : Nat → Prop} : ∀ (t : Ty) (v : Value), zc t v = true → Rel w B t (dflt t) [v] []
  | .int k, v, h => by
    cases v <;> simp [zc] at h
    obtain ⟨rfl, rfl⟩ := h
    exact ⟨rfl, inR_zero _, rfl⟩
  | .bool, v, h => by
    cases v <;> simp [zc] at h
    subst h
    exact ⟨rfl, rfl⟩
  | .str, v, h => by
    cases v <;> simp [zc] at h
    rename_i s
    have hs : s.data.size = 0 := by simpa using h
    refine ⟨s, rfl, ?_, ?_, rfl⟩
    · show bytesOf s = []
      simp [bytesOf, Array.eq_empty_of_size_eq_zero hs]
    · show s.data.size ≤ _
      rw [hs]; exact Nat.zero_le _
  | .nils _, v, h => by
    unfold zc at h
    split at h
    · exact ⟨rfl, rfl⟩
    · cases h
  | .slice _, v, h => by
    unfold zc at h
    split at h
    · exact ⟨rfl, _, rfl, none, 0, [], rfl, Nat.zero_le _, Nat.zero_le _, by simp, by simp [dflt], ⟨rfl, rfl⟩, rfl⟩
    · cases h
  | .nilp, v, h => by
    unfold zc at h
    split at h
    · exact ⟨rfl, rfl⟩
    · cases h
  | .ptr _, v, h => by
    unfold zc at h
    split at h
    · exact ⟨rfl, rfl⟩
    · cases h
  | .nili, v, h => by
    unfold zc at h
    split at h
    · exact ⟨rfl, rfl⟩
    · cases h
  | .alt _ _ r, v, h => ⟨rfl, zc_rel r v h, rfl⟩
  | .unit, _, h => by simp [zc] at h
  | .pair _ _, _, h => by simp [zc] at h
  | .agg _, _, h => by simp [zc] at h
  | .arr _ _, _, h => by simp [zc] at h
  | .own _, _, h => by simp [zc] at h
  | .app _, _, h => by simp [zc] at h
  | .junk, _, h => by simp [zc] at h
  | .box _, _, h => by simp [zc] at h

theorem isZ_one {w : World} {B : Nat → Prop} (t : Ty) (cs r : List Value) (h : (match cs with | [] => none | v :: r => bif zc t v then some r else none) = some r) :
    ∃ c, cs = c ++ r ∧ Rel w B t (dflt t) c [] := by
  cases cs with
  | nil => cases h
  | cons v l =>
    simp only at h
    cases hz : zc t v with
    | false => rw [hz] at h; cases h
    | true =>
      rw [hz] at h
      obtain rfl := Option.some.inj h
      exact ⟨[v], rfl, zc_rel t v hz⟩

theorem isZ_rel {w : World} {B : Nat → Prop} : ∀ (t : Ty) (cs r : List Value), isZ t cs = some r → ∃ c, cs = c ++ r ∧ Rel w B t (dflt t) c []
  | .unit, cs, r, h => by
    obtain rfl := Option.some.inj h
    exact ⟨[], rfl, rfl, rfl⟩
  | .pair a b, cs, r, h => by
    simp only [isZ] at h
    cases h1 : isZ a cs with
    | none => rw [h1] at h; cases h
    | some m =>
      rw [h1] at h
      obtain ⟨c1, rfl, k1⟩ := isZ_rel (w := w) (B := B) a cs m h1
      obtain ⟨c2, rfl, k2⟩ := isZ_rel (w := w) (B := B) b m r h
      exact ⟨c1 ++ c2, by simp, c1, c2, [], [], rfl, rfl, k1, k2⟩
  | .agg a, cs, r, h => isZ_rel a cs r h
  | .arr n e, cs, r, h => by
    have key : ∀ n cs r, times (isZ e) n cs = some r → ∃ c, cs = c ++ r ∧ RelL (Rel w B e) (List.replicate n (dflt e)) c [] := by
      intro n
      induction n with
      | zero => intro cs r h; obtain rfl := Option.some.inj h; exact ⟨[], rfl, rfl, rfl⟩
      | succ n ih =>
        intro cs r h
        simp only [times] at h
        cases h1 : isZ e cs with
        | none => rw [h1] at h; cases h
        | some m =>
          rw [h1] at h
          obtain ⟨c1, rfl, k1⟩ := isZ_rel (w := w) (B := B) e cs m h1
          obtain ⟨c2, rfl, k2⟩ := ih m r h
          exact ⟨c1 ++ c2, by simp, c1, c2, [], [], rfl, rfl, k1, k2⟩
    obtain ⟨c, hc, k⟩ := key n cs r h
    exact ⟨c, hc, by simp [dflt], k⟩
  | .int k, cs, r, h => isZ_one _ cs r h
  | .bool, cs, r, h => isZ_one _ cs r h
  | .str, cs, r, h => isZ_one _ cs r h
  | .nils e, cs, r, h => isZ_one _ cs r h
  | .slice e, cs, r, h => isZ_one _ cs r h
  | .nilp, cs, r, h => isZ_one _ cs r h
  | .ptr t, cs, r, h => isZ_one _ cs r h
  | .nili, cs, r, h => isZ_one _ cs r h
  | .alt u t s, cs, r, h => isZ_one _ cs r h
  | .own e, cs, r, h => isZ_one _ cs r h
  | .app e, cs, r, h => isZ_one _ cs r h
  | .junk, cs, r, h => isZ_one _ cs r h
  | .box t, cs, r, h => isZ_one _ cs r h

theorem isZ_all {w : World} {B : Nat → Prop} {t : Ty} {cs : List Value} (h : isZ t cs = some []) : Rel w B t (dflt t) cs [] := by
  obtain ⟨c, hc, k⟩ := isZ_rel (w := w) (B := B) t cs [] h
  rw [hc, List.append_nil]; exact k

/-- kinds that zero values have hold nothing owned -/
theorem tyOf_pure (P : Program) : ∀ (n : Nat) (t : TypeId) (ty : Ty), tyOf P n t = some ty → ty.pure = true
  | 0, _, _, h => by cases h
  | n + 1, t, ty, h => by
    have hf : ∀ (l : List Field) (u : Ty), tyFields (tyOf P n) l = some u → u.pure = true := by
      intro l
      induction l with
      | nil => intro u h; obtain rfl := Option.some.inj h; rfl
      | cons x l ih =>
        intro u h
        simp only [tyFields] at h
        cases h1 : tyOf P n x.type with
        | none => rw [h1] at h; cases h
        | some t1 =>
          cases h2 : tyFields (tyOf P n) l with
          | none => rw [h1, h2] at h; cases h
          | some t2 =>
            rw [h1, h2] at h
            obtain rfl := Option.some.inj h
            simp [Ty.pure, tyOf_pure P n _ _ h1, ih t2 h2]
    unfold tyOf at h
    split at h
    · obtain rfl := Option.some.inj h; rfl
    · obtain rfl := Option.some.inj h; rfl
    · obtain rfl := Option.some.inj h; rfl
    · rename_i fs _
      cases h1 : tyFields (tyOf P n) fs.toList with
      | none => rw [h1] at h; cases h
      | some u => rw [h1] at h; obtain rfl := Option.some.inj h; exact hf _ u h1
    · rename_i m e _
      cases h1 : tyOf P n e with
      | none => rw [h1] at h; cases h
      | some u => rw [h1] at h; obtain rfl := Option.some.inj h; exact tyOf_pure P n e u h1
    · rename_i e _
      cases h1 : tyOf P n e with
      | none => rw [h1] at h; cases h
      | some u => rw [h1] at h; obtain rfl := Option.some.inj h; exact tyOf_pure P n e u h1
    · obtain rfl := Option.some.inj h; rfl
    · obtain rfl := Option.some.inj h; rfl
    · cases h

theorem zeroD_ok {P : Program} {w : World} {B : Nat → Prop} {t : TypeId} {d : Dyn} (h : zeroD P t = some d) :
    d.ty.pure = true ∧ ∃ z, (P.info? t).bind (·.zero) = some z ∧ Rel w B d.ty d.val z.cells.toList [] := by
  unfold zeroD at h
  cases h1 : tyId P t with
  | none => rw [h1] at h; cases h
  | some ty =>
    cases h2 : (P.info? t).bind (·.zero) with
    | none => rw [h1, h2] at h; cases h
    | some z =>
      rw [h1, h2] at h
      simp only [Option.bind_some] at h
      split at h
      · rename_i hz
        obtain rfl := Option.some.inj h
        exact ⟨tyOf_pure P 12 t ty h1, z, rfl, isZ_all hz⟩
      · cases h

theorem cstD_ok {P : Program} {w : World} {B : Nat → Prop} {t : TypeId} {c : Value} {d : Dyn} (h : cstD P t c = some d) : d.ty.pure = true ∧ VR w B d.ty d.val c [] := by
  cases c with
  | int k n =>
    simp only [cstD] at h
    split at h
    · obtain rfl := Option.some.inj h; exact ⟨rfl, ⟨rfl, by assumption, rfl⟩, rfl⟩
    · cases h
  | bool b => obtain rfl := Option.some.inj h; exact ⟨rfl, ⟨rfl, rfl⟩, rfl⟩
  | string s =>
    simp only [cstD] at h
    split at h
    · obtain rfl := Option.some.inj h; exact ⟨rfl, ⟨s, rfl, rfl, by unfold maxLen; omega, rfl⟩, rfl⟩
    · cases h
  | slice a len cap =>
    unfold cstD at h
    split at h <;> try (simp at *; done)
    · rename_i heq; cases heq
      cases h1 : tyId P t with
      | none => rw [h1] at h; cases h
      | some ty =>
        rw [h1] at h
        simp only [Option.bind_some] at h
        split at h
        · obtain rfl := Option.some.inj h
          exact ⟨tyOf_pure P 12 t _ h1, ⟨rfl, rfl⟩, rfl⟩
        · cases h
    all_goals cases h
  | pointer a =>
    cases a with
    | none => obtain rfl := Option.some.inj h; exact ⟨rfl, ⟨rfl, rfl⟩, rfl⟩
    | some a => cases h
  | nilIface => obtain rfl := Option.some.inj h; exact ⟨rfl, ⟨rfl, rfl⟩, rfl⟩
  | agg cs =>
    simp only [cstD] at h
    cases h1 : tyId P t with
    | none => rw [h1] at h; cases h
    | some ty =>
      rw [h1] at h
      simp only [Option.bind_some] at h
      split at h
      · rename_i hz
        split at h
        · rename_i hagg
          obtain rfl := Option.some.inj h
          exact ⟨tyOf_pure P 12 t _ h1, isZ_all hz, hagg.symm⟩
        · cases h
      · cases h
  | _ => cases h

/-- a slot's value with its kind -/
theorem fix_ok {st : St} {a : Act} {w : World} {B : Nat → Prop} {G : Nat → PG} {P : Program} {t : TypeId} {e e' : EV} {v : Value}
    (he : EVR (tv a) w B G (look st) e v) (hf : e.fix P t = some e') : EVR (tv a) w B G (look st) e' v := by
  cases e with
  | cst c =>
    simp only [EV.fix] at hf
    cases hc : cstD P t c with
    | none => rw [hc] at hf; cases hf
    | some d =>
      rw [hc] at hf
      obtain rfl := Option.some.inj hf
      simp only [EVR] at he ⊢
      subst he
      exact cstD_ok hc
  | _ => obtain rfl := Option.some.inj hf; exact he

/-! ### what an operation does -/
/-- the machine's operation leaves a slot's value and places as told -/
def Does (X : Cx) (st : St) (a : Act) (w : World) (o : Oper) (ev : EV) (U : Upds) : Prop :=
  ∀ (next : Act → World → Prop) (Q : Exit → Act → World → Prop),
    (∀ v w' B' G', Inv X (applyU U st) a w' B' G' → EVR (tv a) w' B' G' (look (applyU U st)) ev v → next (a.put o.dst v) w') → o.wp X.P a w next Q

theorem Does.value {X : Cx} {st : St} {a : Act} {w w' : World} {B : Nat → Prop} {G : Nat → PG} {o : Oper} {ev : EV} {U : Upds} {v : Value}
    (hr : (execOp a.eval o).run X.P w = .ok (.value v) w') (hI : Inv X (applyU U st) a w' B G) (hv : EVR (tv a) w' B G (look (applyU U st)) ev v) : Does X st a w o ev U := by
  intro next Q h
  unfold Oper.wp
  rw [hr]
  exact h v w' B G hI hv

theorem Does.skip {X : Cx} {st : St} {a : Act} {w w' : World} {B : Nat → Prop} {G : Nat → PG} {o : Oper} {U : Upds}
    (hr : (execOp a.eval o).run X.P w = .ok .skip w') (hI : Inv X (applyU U st) a w' B G) : Does X st a w o .dead U := by
  intro next Q h
  unfold Oper.wp
  rw [hr]
  exact h undef w' B G hI (by simp only [EVR])

/-- the operands -/
def EOk (X : Cx) (st : St) (a : Act) (w : World) (B : Nat → Prop) (G : Nat → PG) (E : Operand → Option EV) : Prop :=
  ∀ z e, E z = some e → EVR (tv a) w B G (look st) e (a.eval z)

section quiet
variable {X : Cx} {st : St} {a : Act} {w : World} {B : Nat → Prop} {G : Nat → PG} {E : Operand → Option EV}

theorem op_move (h : Inv X st a w B G) (hE : EOk X st a w B G E) {o : Oper} {x : Operand} (ho : o.op = .move x ∨ o.op = .assign x) {e e' : EV} (he : E x = some e) (hf : e.fix X.P o.type = some e') :
    Does X st a w o e' [] := by
  refine Does.value (v := a.eval x) ?_ h (fix_ok (hE x e he) hf)
  rcases ho with ho | ho <;> simp [execOp, ho]

theorem bool_ok (h : Inv X st a w B G) {e : EV} {v : Value} {b : Bool} (he : EVR (tv a) w B G (look st) e v) (hr : e.rd (look st) = some ⟨.bool, some b⟩) : v = .bool b := by
  obtain ⟨F, hR, ha⟩ := rd_ok h he hr
  exact cells_one hR.1 ha

theorem val_ok (h : Inv X st a w B G) {e : EV} {v : Value} {t : Ty} {x : T t} (he : EVR (tv a) w B G (look st) e v) (hr : e.rd (look st) = some ⟨t, some x⟩) (hp : t.pure = true) :
    EVR (tv a) w B G (look st) (.val ⟨t, x⟩) v := by
  obtain ⟨F, hR⟩ := rd_ok h he hr
  have := Rel_pure w B t x _ F hp hR.1
  subst this
  simp only [EVR]
  exact ⟨hp, hR⟩

theorem op_pick (h : Inv X st a w B G) (hE : EOk X st a w B G E) {o : Oper} {c x y : Operand} (ho : o.op = .pick c x y) {ec ex ey ex' ey' : EV} {b : Bool} {t : Ty} {vx vy : T t}
    (hc : E c = some ec) (hc' : ec.rd (look st) = some ⟨.bool, some b⟩) (hx : b = true → EVR (tv a) w B G (look st) ex (a.eval x)) (hxf : ex.fix X.P o.type = some ex') (hxr : ex'.rd (look st) = some ⟨t, some vx⟩)
    (hy : b = false → EVR (tv a) w B G (look st) ey (a.eval y)) (hyf : ey.fix X.P o.type = some ey') (hyr : ey'.rd (look st) = some ⟨t, some vy⟩) (hp : t.pure = true) :
    Does X st a w o (.val ⟨t, bif b then vx else vy⟩) [] := by
  have hb := bool_ok h (hE c ec hc) hc'
  refine Does.value (v := if b then a.eval x else a.eval y) ?_ h ?_
  · simp [execOp, ho, hb, asBool]
  · cases b with
    | true => exact val_ok h (fix_ok (hx rfl) hxf) hxr hp
    | false => exact val_ok h (fix_ok (hy rfl) hyf) hyr hp

/-! sizes of types -/
theorem sizeOk_info {P : Program} {t : TypeId} {ty : Ty} (h : sizeOk P t ty = true) : ∃ i, P.info? t = some i ∧ i.size = ty.size ∧ ∃ d, P.underlying t = some d ∧ (match d with | .struct _ => ty.isAgg = true | .array _ _ => ty.isAgg = true | _ => ty.isAgg = false ∧ ty.size = 1) := by
  unfold sizeOk at h
  split at h
  · rename_i i hi
    simp only [Bool.and_eq_true] at h
    refine ⟨i, hi, Nat.eq_of_beq_eq_true h.1, ?_⟩
    have h2 := h.2
    split at h2
    · rename_i d hd; exact ⟨_, hd, h2⟩
    · rename_i d1 d2 hd; exact ⟨_, hd, h2⟩
    · rename_i d hn1 hn2 hd
      simp only [Bool.and_eq_true, Bool.not_eq_true'] at h2
      refine ⟨d, hd, ?_⟩
      split
      · exact absurd rfl (hn1 _)
      · exact absurd rfl (hn2 _ _)
      · exact ⟨h2.1, Nat.eq_of_beq_eq_true h2.2⟩
    · cases h2
  · cases h

theorem run_sizeOf {P : Program} {t : TypeId} {ty : Ty} (h : sizeOk P t ty = true) (w : World) : (sizeOf t).run P w = .ok ty.size w := by
  obtain ⟨i, hi, hs, _⟩ := sizeOk_info h
  simp [Go.sizeOf, typeInfo, hi, hs]

theorem run_isAgg {P : Program} {t : TypeId} {ty : Ty} (h : sizeOk P t ty = true) (w : World) : (isAgg t).run P w = .ok ty.isAgg w := by
  obtain ⟨i, hi, hs, d, hd, hm⟩ := sizeOk_info h
  unfold Go.isAgg underlying
  simp only [Sem.run_bind, run_program, Result.andThen_ok, hd, Sem.run_pure]
  split at hm
  · simp [hm]
  · simp [hm]
  · rename_i hn1 hn2
    cases d <;> first | exact absurd rfl (hn1 _) | exact absurd rfl (hn2 _ _) | simp [hm.1]

theorem run_loadVar {P : Program} {t : TypeId} {ty : Ty} (h : sizeOk P t ty = true) {w : World} {b o : Nat} {cs : List Value} (hr : Rows w b o cs) (hl : cs.length = ty.size) (hp : ∀ c ∈ cs, Value.plain? c = true) :
    ∃ v, (loadVar t ⟨b, o, none⟩).run P w = .ok v w ∧ v.cells.toList = cs ∧ Value.agg? v = ty.isAgg := by
  obtain ⟨i, hi, hs, d, hd, hm⟩ := sizeOk_info h
  unfold loadVar
  simp only [Sem.run_bind, run_isAgg h, Result.andThen_ok]
  cases ha : ty.isAgg with
  | true =>
    have hc := run_loadCells_list (P := P) w ⟨b, o, none⟩ cs (fun j v hv => by
      have := hr j v hv
      simp only [Addr.add]
      split
      · rename_i h0; subst h0; simpa using this
      · exact this)
    refine ⟨.agg cs.toArray, ?_, by simp [Value.cells], rfl⟩
    simp [run_sizeOf h, ← hl, hc]
  | false =>
    have h1 : ty.size = 1 := by
      split at hm
      · rw [ha] at hm; cases hm
      · rw [ha] at hm; cases hm
      · exact hm.2
    rw [h1] at hl
    obtain ⟨c, rfl⟩ := List.length_eq_one_iff.1 hl
    have := hr 0 c rfl
    refine ⟨c, by simp at this; simp [this], ?_, ?_⟩
    · have hc := hp c (by simp)
      cases c <;> first | rfl | (simp [Value.plain?] at hc)
    · have hc := hp c (by simp)
      cases c <;> first | rfl | (simp [Value.plain?] at hc)

end quiet
end
end Go.Pv
