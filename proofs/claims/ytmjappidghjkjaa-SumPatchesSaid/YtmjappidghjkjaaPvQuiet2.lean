/- More single operations that leave the world alone. -/
import Derived.Test.YtmjappidghjkjaaPvQuiet
namespace Go.Pv
noncomputable section
universe u v

section
variable {X : Cx} {st : St} {a : Act} {w : World} {B : Nat → Prop} {G : Nat → PG} {E : Operand → Option EV}

theorem unOp_ok (h : Inv X st a w B G) {op : UnOp} {xt : TypeId} {ex : EV} {vx : Value} {r : ORes} {z : r.α}
    (hx : EVR (tv a) w B G (look st) ex vx) (he : unOp X.P (look st) op xt ex = some r) (hz : r.run = some z) :
    ∃ v, (Op.unary op vx).run X.P w = .ok v w ∧ (r.out z).upd = [] ∧ EVR (tv a) w B G (look st) (r.out z).ev v := by
  unfold unOp at he
  obtain ⟨ex', hf, he⟩ := bind_some he
  obtain ⟨d, hd, he⟩ := bind_some he
  have hx' := fix_ok hx hf
  split at he
  · obtain rfl := Option.some.inj he
    obtain ⟨F, hR, ha⟩ := rd_ok h hx' hd
    obtain rfl := cells_one hR.1 ha
    exact ⟨_, rfl, rfl, by simp only [ORes.just, EVR]; exact ⟨rfl, ⟨rfl, wrap_inR _ _, rfl⟩, rfl⟩⟩
  · obtain rfl := Option.some.inj he
    obtain ⟨F, hR, ha⟩ := rd_ok h hx' hd
    obtain rfl := cells_one hR.1 ha
    exact ⟨_, rfl, rfl, by simp only [ORes.just, EVR]; exact ⟨rfl, ⟨rfl, wrap_inR _ _, rfl⟩, rfl⟩⟩
  · obtain rfl := Option.some.inj he
    obtain ⟨F, hR, ha⟩ := rd_ok h hx' hd
    obtain rfl := cells_one hR.1 ha
    exact ⟨_, rfl, rfl, by simp only [ORes.just, EVR]; exact ⟨rfl, ⟨rfl, rfl⟩, rfl⟩⟩
  · cases he

/-- where a pointer to a place leads -/
theorem loc_ok' (h : Inv X st a w B G) {n : Nat} {p : Path} {v : Value} (he : EVR (tv a) w B G (look st) (.loc n p) v) {y : ODyn} {x : T y.ty} (hy : listAt (look st) n p = some y) (hv : y.val = some x) :
    ∃ b o cs F, v = .pointer (some ⟨b, o, none⟩) ∧ Rows w b o cs ∧ Rel w B y.ty x cs F ∧ ∃ d o', look st n = some d ∧ offP d.ty p = some (o', y.ty) ∧ cs = ((G n).cells.drop o').take y.ty.size := by
  simp only [EVR] at he
  obtain ⟨d, o, u, b, off, hd, ho, hg, rfl⟩ := he
  simp only [listAt, hd, Option.bind_some] at hy
  obtain ⟨hR, hA⟩ := h.pl n d hd
  rw [hg] at hA
  obtain ⟨o', pre, mid, post, F1, F2, F3, ho', hc, hl, hF, hm, _⟩ := getP_rel p d.ty d.val y x _ _ hy hv hR
  rw [ho] at ho'
  simp only [Option.some.injEq, Prod.mk.injEq] at ho'
  obtain ⟨rfl, rfl⟩ := ho'
  refine ⟨b, off + o, mid, F2, rfl, ?_, hm, d, o, hd, ho, ?_⟩
  rotate_left
  · rw [hc, List.append_assoc, List.drop_append_of_le_length (by omega), ← hl, List.drop_length, List.nil_append, ← Rel_length w B _ _ _ _ hm, List.take_left']
    rfl
  intro i c hi
  have := hA.1 (o + i) c (by
    rw [hc, List.append_assoc, List.getElem?_append_right (by omega), hl]
    rw [Nat.add_sub_cancel_left, List.getElem?_append_left]
    · exact hi
    · exact (List.getElem?_eq_some_iff.1 hi).1)
  rw [Nat.add_assoc]; exact this

theorem loc_ok (h : Inv X st a w B G) {n : Nat} {p : Path} {v : Value} (he : EVR (tv a) w B G (look st) (.loc n p) v) {y : ODyn} {x : T y.ty} (hy : listAt (look st) n p = some y) (hv : y.val = some x) :
    ∃ b o cs F, v = .pointer (some ⟨b, o, none⟩) ∧ Rows w b o cs ∧ Rel w B y.ty x cs F := by
  obtain ⟨b, o, cs, F, h1, h2, h3, _⟩ := loc_ok' h he hy hv
  exact ⟨b, o, cs, F, h1, h2, h3⟩

/-- where a pointer to an owned element leads -/
theorem oel_ok (h : Inv X st a w B G) {n : Nat} {p q : Path} {e : Ty} {i : Int} {v : Value} (he : EVR (tv a) w B G (look st) (.oel n p e i q) v) {xs : List (T e)} (hy : listAt (look st) n p = some ⟨.own e, some xs⟩)
    {z : ODyn} {x : T z.ty} (hz : getP ⟨e, rdI xs i⟩ q = some z) (hv : z.val = some x) :
    ∃ b o cs F, v = .pointer (some ⟨b, o, none⟩) ∧ Rows w b o cs ∧ Rel w B z.ty x cs F := by
  simp only [EVR] at he
  obtain ⟨d, o, u, b, len, cap, qo, qu, hd, ho, hc, hq, rfl⟩ := he
  simp only [listAt, hd, Option.bind_some] at hy
  obtain ⟨hR, hA⟩ := h.pl n d hd
  obtain ⟨o', pre, mid, post, F1, F2, F3, ho', hcs, hl, hF, hm, _⟩ := getP_rel p d.ty d.val _ xs _ _ hy rfl hR
  rw [ho] at ho'
  simp only [Option.some.injEq, Prod.mk.injEq] at ho'
  obtain ⟨rfl, _⟩ := ho'
  obtain ⟨sv, hmid, hown⟩ := hm
  subst hmid
  rw [hcs, List.append_assoc, List.getElem?_append_right (by omega), hl, Nat.sub_self] at hc
  simp only [List.cons_append, List.nil_append, List.getElem?_cons_zero, Option.some.injEq] at hc
  subst hc
  cases hx : rdI xs i with
  | none =>
    rw [hx] at hz
    rw [getP_none q e z hz] at hv
    cases hv
  | some y =>
    rw [hx] at hz
    obtain ⟨h0, hi⟩ := rdI_some hx
    rcases hown with ⟨_, hbad, _⟩ | ⟨b', cap', c, F', hsv, h1, h2, h3, h4, h5, h6⟩
    · simp at hbad
    · simp only [Value.slice.injEq, Option.some.injEq, Addr.mk.injEq, and_true] at hsv
      obtain ⟨rfl, rfl, rfl⟩ := hsv
      obtain ⟨c1, c2, c3, G1, G2, G3, e1, e2, e3, e4, _⟩ := RelL_split (fun x cs F h => Rel_length w B e x cs F h) xs _ _ _ y h5 hi
      obtain ⟨o2, pre2, mid2, post2, H1, H2, H3, k1, k2, k3, k4, k5, _⟩ := getP_rel q e y z x c2 G2 hz hv e4
      rw [hq] at k1
      simp only [Option.some.injEq, Prod.mk.injEq] at k1
      obtain ⟨rfl, rfl⟩ := k1
      refine ⟨b, i.toNat * e.size + qo, mid2, H2, rfl, ?_, k5⟩
      intro j cc hj
      rw [h3.cell]
      have hjl : j < mid2.length := (List.getElem?_eq_some_iff.1 hj).1
      have : (c.toList.take (xs.length * e.size))[i.toNat * e.size + qo + j]? = some cc := by
        rw [e1, k2]
        rw [List.append_assoc, List.getElem?_append_right (by rw [e3]; omega), e3]
        rw [show i.toNat * e.size + qo + j - i.toNat * e.size = qo + j by omega]
        rw [List.append_assoc, List.append_assoc, List.getElem?_append_right (by omega), k3, Nat.add_sub_cancel_left]
        rw [List.getElem?_append_left hjl]
        exact hj
      have := take_getElem? this
      simpa using this

/-- a load through a pointer -/
theorem load_of {t : TypeId} {ty : Ty} {x : T ty} (hs : sizeOk X.P t ty = true) (hp : ty.pure = true) {v : Value} {b o : Nat} {cs : List Value} {F : List Nat} (hv : v = .pointer (some ⟨b, o, none⟩)) (hr : Rows w b o cs) (hR : Rel w B ty x cs F) :
    ∃ u, (Instr.loadAt t v).run X.P w = .ok u w ∧ EVR (tv a) w B G (look st) (.val ⟨ty, x⟩) u := by
  subst hv
  obtain rfl := Rel_pure w B ty x cs F hp hR
  obtain ⟨u, h1, h2, h3⟩ := run_loadVar (w := w) hs hr (Rel_length w B ty x cs _ hR) (Rel_plain w B ty x cs _ hR)
  refine ⟨u, by simp [Instr.loadAt, Instr.sureAddr, h1], ?_⟩
  simp only [EVR]
  exact ⟨hp, by rw [h2]; exact hR, h3⟩

theorem op_load (h : Inv X st a w B G) (hE : EOk X st a w B G E) {o : Oper} {t : TypeId} {z : Operand} (ho : o.op = .load t z) {Γ : Nat → Option CSem} {dst : Nat} {r : ORes} (he : evalOp X.P Γ (look st) E dst (.load t z) o.type = some r) {x : r.α} (hx : r.run = some x) :
    Does X st a w o (r.out x).ev (r.out x).upd := by
  simp only [evalOp] at he
  obtain ⟨ea, hea, he⟩ := bind_some he
  have hv := hE z ea hea
  have hrun : ∀ u, (Instr.loadAt t (a.eval z)).run X.P w = .ok u w → (execOp a.eval o).run X.P w = .ok (.value u) w := by
    intro u hu; simp [execOp, ho, hu]
  cases ea with
  | loc n p =>
    obtain ⟨y, hy, he⟩ := bind_some he
    split at he
    · rename_i hs
      split at he
      · rename_i hp
        obtain rfl := Option.some.inj he
        obtain ⟨b, off, cs, F, h1, h2, h3⟩ := loc_ok h hv hy hx
        obtain ⟨u, k1, k2⟩ := load_of (st := st) (a := a) (G := G) hs hp h1 h2 h3
        exact Does.value (hrun u k1) h k2
      · obtain rfl := Option.some.inj he
        -- what is not plain data stays at its place
        obtain ⟨b, off, cs, F, h1, h2, h3, d, o', hd, ho', hcs⟩ := loc_ok' h hv hy hx
        obtain ⟨u, k1, k2, k3⟩ := run_loadVar (w := w) hs h2 (Rel_length w B _ x cs _ h3) (Rel_plain w B _ x cs _ h3)
        refine Does.value (v := u) (hrun u (by rw [h1]; simp [Instr.loadAt, Instr.sureAddr, k1])) h ?_
        simp only [ODyn.res, EVR]
        exact ⟨d, o', _, hd, ho', by rw [k2]; exact hcs, k3⟩
    · cases he
  | ref d =>
    simp only [] at he
    split at he
    · rename_i hs
      obtain rfl := Option.some.inj he
      simp only [EVR] at hv
      obtain ⟨hp, b, off, cells, h1, h2, h3, h4⟩ := hv
      obtain ⟨u, k1, k2⟩ := load_of (st := st) (a := a) (G := G) hs hp h1 h3 h4
      exact Does.value (hrun u k1) h k2
    · cases he
  | oel n p e0 i q =>
    obtain ⟨y, hy, he⟩ := bind_some he
    split at he
    · split at he
      · rename_i he0
        subst he0
        obtain ⟨zz, hzz, he⟩ := bind_some he
        split at he
        · rename_i hs
          simp only [Bool.and_eq_true] at hs
          obtain rfl := Option.some.inj he
          obtain ⟨b, off, cs, F, h1, h2, h3⟩ := oel_ok h hv hy hzz hx
          obtain ⟨u, k1, k2⟩ := load_of (st := st) (a := a) (G := G) hs.1 hs.2 h1 h2 h3
          exact Does.value (hrun u k1) h k2
        · cases he
      · cases he
    · cases he
  | _ => cases he

/-! ### pointers -/
theorem op_nilCheck (h : Inv X st a w B G) (hE : EOk X st a w B G E) {o : Oper} {z : Operand} (ho : o.op = .nilCheck z) {Γ : Nat → Option CSem} {dst : Nat} {r : ORes} (he : evalOp X.P Γ (look st) E dst (.nilCheck z) o.type = some r) {x : r.α} (hx : r.run = some x) :
    Does X st a w o (r.out x).ev (r.out x).upd := by
  simp only [evalOp] at he
  obtain ⟨ea, hea, he⟩ := bind_some he
  have hv := hE z ea hea
  have hptr : ∀ ad, a.eval z = .pointer (some ad) → (execOp a.eval o).run X.P w = .ok (.value (a.eval z)) w := by
    intro ad hu; simp [execOp, ho, hu]
  have hdat : ∀ e : EV, EVR (tv a) w B G (look st) e (a.eval z) → ((e.rd (look st)).bind fun d => match d with
        | ⟨.ptr t, o⟩ => if t.pure then some (⟨o.bind id, Pv.dflt t, fun v => ⟨.ref ⟨t, v⟩, []⟩⟩ : ORes) else none
        | _ => none) = some r → Does X st a w o (r.out x).ev (r.out x).upd := by
    intro e hv he
    obtain ⟨d, hd, he⟩ := bind_some he
    split at he
    · rename_i t ov
      split at he
      · rename_i hp
        obtain rfl := Option.some.inj he
        obtain ⟨y, hy, hyx⟩ := bind_some hx
        have hyx : y = some x := hyx
        cases ov with
        | none => cases hy
        | some ov =>
          have : ov = y := Option.some.inj hy
          rw [this, hyx] at hd
          obtain ⟨F, hR, ha⟩ := rd_ok h hv hd
          obtain ⟨_, b, off, cells, hc, hB, hr, hR⟩ := hR
          have hv := cells_one hc ha
          refine Does.value (hptr _ hv) h ?_
          simp only [EVR]
          exact ⟨hp, b, off, cells, hv, .inl hB, hr, hR⟩
      · cases he
    · cases he
  cases ea with
  | loc n p =>
    obtain rfl := Option.some.inj he
    have hv' := hv
    simp only [EVR] at hv'
    obtain ⟨_, _, _, b, off, _, _, _, hvv⟩ := hv'
    exact Does.value (hptr _ hvv) h hv
  | oel n p e0 i q =>
    obtain rfl := Option.some.inj he
    have hv' := hv
    simp only [EVR] at hv'
    obtain ⟨_, _, _, b, _, _, _, _, _, _, _, _, hvv⟩ := hv'
    exact Does.value (hptr _ hvv) h hv
  | ref d =>
    obtain rfl := Option.some.inj he
    have hv' := hv
    simp only [EVR] at hv'
    obtain ⟨_, b, _, _, hvv, _⟩ := hv'
    exact Does.value (hptr _ hvv) h hv
  | fn f c =>
    obtain rfl := Option.some.inj he
    have hv' := hv
    simp only [EVR] at hv'
    obtain ⟨vs, hvv, _⟩ := hv'
    exact Does.value (v := a.eval z) (by simp [execOp, ho, hvv]) h hv
  | _ => exact hdat _ hv he

/-! ### fields -/
theorem fld_off {t : Ty} {f o : Nat} {u : Ty} (h : offS t (.fld f) = some (o, u)) (p : Path) {t0 : Ty} {o0 : Nat} (h0 : offP t0 p = some (o0, t)) : offP t0 (p ++ [.fld f]) = some (o0 + o, u) := by
  rw [offP_append, h0]
  simp [offP, h]

theorem run_fieldPlace {P : Program} {fd : Field} {u : Ty} (h : sizeOk P fd.type u = true) (hz : Nat.beq u.size 0 = false) (b o : Nat) : (fieldPlace ⟨b, o, none⟩ fd).run P w = .ok ⟨b, o + fd.offset, none⟩ w := by
  have : ¬ u.size = 0 := fun h => by rw [h] at hz; cases hz
  unfold fieldPlace
  simp only [Sem.run_bind, run_sizeOf h, Result.andThen_ok, if_neg this, Sem.run_pure, Addr.add]
  split
  · rename_i h0; rw [h0]; rfl
  · rfl

theorem op_fieldAddr (h : Inv X st a w B G) (hE : EOk X st a w B G E) {o : Oper} {s : TypeId} {z : Operand} {f : Nat} (ho : o.op = .fieldAddr s z f) {Γ : Nat → Option CSem} {dst : Nat} {r : ORes} (he : evalOp X.P Γ (look st) E dst (.fieldAddr s z f) o.type = some r) {x : r.α} (hx : r.run = some x) :
    Does X st a w o (r.out x).ev (r.out x).upd := by
  simp only [evalOp] at he
  obtain ⟨ea, hea, he⟩ := bind_some he
  have hv := hE z ea hea
  split at he
  · rename_i fs hfs
    obtain ⟨fd, hfd, he⟩ := bind_some he
    have hok : ∀ t : Ty, fldOk X.P fd f t = true →
        ∃ u, offS t (.fld f) = some (fd.offset, u) ∧ sizeOk X.P fd.type u = true ∧ Nat.beq u.size 0 = false := by
      intro t ht
      unfold fldOk at ht
      split at ht
      · rename_i o' u hu
        simp only [Bool.and_eq_true, Bool.not_eq_true'] at ht
        have := Nat.eq_of_beq_eq_true ht.1.1
        subst this
        exact ⟨u, hu, ht.1.2, ht.2⟩
      · cases ht
    have hrun : ∀ b off u, a.eval z = .pointer (some ⟨b, off, none⟩) → sizeOk X.P fd.type u = true → Nat.beq u.size 0 = false →
        (execOp a.eval o).run X.P w = .ok (.value (.pointer (some ⟨b, off + fd.offset, none⟩))) w := by
      intro b off u hu h1 h2
      simp [execOp, ho, hu, Instr.fieldAt, underlying, hfs, hfd, Instr.sureAddr, run_fieldPlace (w := w) h1 h2]
    cases ea with
    | loc n p =>
      obtain ⟨y, hy, he⟩ := bind_some he
      split at he
      · rename_i hk
        obtain rfl := Option.some.inj he
        obtain ⟨u, h1, h2, h3⟩ := hok _ hk
        simp only [EVR] at hv
        obtain ⟨d, o', u', b, off, hd, ho', hg, hvv⟩ := hv
        simp only [listAt, hd, Option.bind_some] at hy
        obtain ⟨oo, hoo⟩ := getP_off p _ y hy
        rw [ho'] at hoo
        simp only [Option.some.injEq, Prod.mk.injEq] at hoo
        obtain ⟨rfl, rfl⟩ := hoo
        refine Does.value (hrun b (off + o') u hvv h2 h3) h ?_
        simp only [ORes.just, EVR]
        exact ⟨d, o' + fd.offset, u, b, off, hd, fld_off h1 p ho', hg, by rw [Nat.add_assoc]⟩
      · cases he
    | oel n p e0 i q =>
      obtain ⟨z', hz', he⟩ := bind_some he
      split at he
      · rename_i hk
        obtain rfl := Option.some.inj he
        obtain ⟨u, h1, h2, h3⟩ := hok _ hk
        simp only [EVR] at hv
        obtain ⟨d, o', u', b, len, cap, qo, qu, hd, ho', hc, hq, hvv⟩ := hv
        rw [hq] at hz'
        obtain rfl := Option.some.inj hz'
        refine Does.value (hrun b _ u hvv h2 h3) h ?_
        simp only [ORes.just, EVR]
        exact ⟨d, o', u', b, len, cap, qo + fd.offset, u, hd, ho', hc, fld_off h1 q hq, by rw [Nat.add_assoc]⟩
      · cases he
    | ref d =>
      simp only [] at he
      split at he
      · rename_i hk
        obtain ⟨y, hy, rfl⟩ := Option.map_eq_some_iff.1 he
        obtain ⟨u, h1, h2, h3⟩ := hok _ hk
        simp only [EVR] at hv
        obtain ⟨hp, b, off, cells, hvv, hB, hr, hR⟩ := hv
        obtain ⟨o', pre, mid, post, F1, F2, F3, ho', hc, hl, hF, hm, _⟩ := getS_rel d.ty d.val _ y x cells [] hy hx hR
        rw [h1] at ho'
        simp only [Option.some.injEq, Prod.mk.injEq] at ho'
        obtain ⟨rfl, rfl⟩ := ho'
        refine Does.value (hrun b off _ hvv h2 h3) h ?_
        simp only [ODyn.res, EVR]
        have hF2 : F2 = [] := by
          have := (List.append_eq_nil_iff.1 (hF.symm)).1
          exact (List.append_eq_nil_iff.1 this).2
        subst hF2
        refine ⟨getS_pure _ _ _ hp hy, b, off + pre.length, mid, by rw [hl], ?_, ?_, hm⟩
        · rcases hB with hB | hB
          · exact .inl hB
          · right
            rw [hc] at hB
            exact (List.append_eq_nil_iff.1 (List.append_eq_nil_iff.1 hB).1).2
        · intro i c hi
          rw [Nat.add_assoc]
          refine hr (pre.length + i) c ?_
          rw [hc, List.append_assoc, List.getElem?_append_right (by omega), Nat.add_sub_cancel_left, List.getElem?_append_left (List.getElem?_eq_some_iff.1 hi).1]
          exact hi
      · cases he
    | _ => cases he
  · cases he

end
end
end Go.Pv
