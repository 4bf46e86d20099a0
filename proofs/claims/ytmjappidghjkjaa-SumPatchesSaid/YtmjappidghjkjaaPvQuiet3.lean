/- More single operations that leave the world alone: parts, elements, tuples, functions, interfaces' values, lengths. -/
import Derived.Test.YtmjappidghjkjaaPvQuiet2
namespace Go.Pv
noncomputable section
universe u v

section
variable {X : Cx} {st : St} {a : Act} {w : World} {B : Nat → Prop} {G : Nat → PG} {E : Operand → Option EV}

theorem op_field (h : Inv X st a w B G) (hE : EOk X st a w B G E) {o : Oper} {s : TypeId} {z : Operand} {f : Nat} (ho : o.op = .field s z f) {Γ : Nat → Option CSem} {dst : Nat} {r : ORes} (he : evalOp X.P Γ (look st) E dst (.field s z f) o.type = some r) {x : r.α} (hx : r.run = some x) :
    Does X st a w o (r.out x).ev (r.out x).upd := by
  simp only [evalOp] at he
  obtain ⟨ea, hea, he⟩ := bind_some he
  have hv := hE z ea hea
  split at he
  · rename_i fs hfs
    obtain ⟨fd, hfd, he⟩ := bind_some he
    obtain ⟨d, hd, he⟩ := bind_some he
    split at he
    · rename_i hk
      simp only [Bool.and_eq_true] at hk
      obtain ⟨y, hy, rfl⟩ := Option.map_eq_some_iff.1 he
      obtain ⟨t, ov⟩ := d
      cases ov with
      | none => have := getS_none t _ y hy; rw [show (y.res fun d => ⟨EV.val d, []⟩).run = y.val from rfl, this] at hx; cases hx
      | some dv =>
      obtain ⟨F, hR, ha⟩ := rd_ok h hv hd
      have hk1 := hk.1
      unfold fldOk at hk1
      split at hk1
      · rename_i o' u hu
        simp only [Bool.and_eq_true, Bool.not_eq_true'] at hk1
        have h0 := Nat.eq_of_beq_eq_true hk1.1.1
        subst h0
        obtain ⟨o2, pre, mid, post, F1, F2, F3, ho', hc, hl, hF, hm, _⟩ := getS_rel t dv _ y x _ F hy hx hR
        have ho2 : offS t (.fld f) = some (o2, y.ty) := ho'
        rw [hu] at ho2
        simp only [Option.some.injEq, Prod.mk.injEq] at ho2
        obtain ⟨rfl, rfl⟩ := ho2
        have hagg : t.isAgg = true := by cases t <;> first | rfl | (simp [offS] at hu)
        rw [hagg] at ha
        obtain ⟨cs, hcs⟩ := cells_agg ha
        have hpy := getS_pure _ _ y hk.2 hy
        obtain rfl := Rel_pure w B _ _ _ F2 hpy hm
        have hc' : cs.toList = pre ++ mid ++ post := by rw [hcs] at hc; simpa [Value.cells] using hc
        obtain ⟨v, k1, k2, k3⟩ := run_part (w := w) hk1.1.2 hc' (Rel_length w B _ _ _ _ hm) (Rel_plain w B _ _ _ _ hm)
        refine Does.value (v := v) ?_ h ?_
        · rw [hl] at k1
          have k1 : (part fd.type cs fd.offset).run X.P w = .ok v w := by simpa using k1
          simp [execOp, ho, hcs, Instr.field, underlying, hfs, hfd, asAgg, k1]
        · simp only [ODyn.res, EVR]
          exact ⟨hpy, by rw [k2]; exact hm, k3⟩
      · cases hk1
    · cases he
  · cases he

theorem Does.of_run {o : Oper} {z : Operand} {v u : Value} {ev : EV} (h : Inv X st a w B G) (hr : (execOp a.eval o).run X.P w = .ok (.value u) w) (hv : EVR (tv a) w B G (look st) ev u) : Does X st a w o ev [] := Does.value hr h hv

theorem EVRL_get {tv : Nat → Value} {w : World} {B : Nat → Prop} {G : Nat → PG} {L : Look} : ∀ (l : List EV) (vs : List Value) (i : Nat) (e : EV), EVRL tv w B G L l vs → l[i]? = some e → ∃ v, vs[i]? = some v ∧ EVR tv w B G L e v
  | [], _, _, _, _, h => by simp at h
  | x :: l, vs, 0, e, h, hi => by
    simp only [EVRL] at h
    obtain ⟨v, r, rfl, he, _⟩ := h
    obtain rfl : x = e := by simpa using hi
    exact ⟨v, rfl, he⟩
  | x :: l, vs, i + 1, e, h, hi => by
    simp only [EVRL] at h
    obtain ⟨v, r, rfl, _, hl⟩ := h
    obtain ⟨u, h1, h2⟩ := EVRL_get l r i e hl (by simpa using hi)
    exact ⟨u, by simpa using h1, h2⟩

theorem op_extract (h : Inv X st a w B G) (hE : EOk X st a w B G E) {o : Oper} {z : Operand} {i : Nat} (ho : o.op = .extract z i) {Γ : Nat → Option CSem} {dst : Nat} {r : ORes} (he : evalOp X.P Γ (look st) E dst (.extract z i) o.type = some r) {x : r.α} (_hx : r.run = some x) :
    Does X st a w o (r.out x).ev (r.out x).upd := by
  simp only [evalOp] at he
  obtain ⟨ea, hea, he⟩ := bind_some he
  have hv := hE z ea hea
  cases ea with
  | tup l =>
    obtain ⟨e, hl, rfl⟩ := Option.map_eq_some_iff.1 he
    simp only [EVR] at hv
    obtain ⟨vs, hvs, hv⟩ := hv
    obtain ⟨v, h1, h2⟩ := EVRL_get l _ i e hv hl
    refine Does.value (v := v) ?_ h h2
    have : vs[i]? = some v := by simpa using h1
    simp [execOp, ho, hvs, Instr.extract, this]
  | _ => cases he

theorem EVRL_mapM {tv : Nat → Value} : ∀ (l : List Operand) (es : List EV), EOk X st a w B G E → l.mapM E = some es → EVRL (Go.Pv.tv a) w B G (look st) es (l.map a.eval)
  | [], es, _, h => by
    simp only [List.mapM_nil, Option.pure_def, Option.some.injEq] at h
    subst h; simp [EVRL]
  | z :: l, es, hE, h => by
    rw [List.mapM_cons] at h
    obtain ⟨e, he, h⟩ := bind_some h
    obtain ⟨es', hes, h⟩ := bind_some h
    obtain rfl := Option.some.inj h
    simp only [EVRL]
    exact ⟨a.eval z, l.map a.eval, rfl, hE z e he, EVRL_mapM (tv := tv) l es' hE hes⟩

theorem op_makeFunc (h : Inv X st a w B G) (hE : EOk X st a w B G E) {o : Oper} {f : Nat} {first caps : Array Operand} (ho : o.op = .makeFunc (.func f) first caps) {Γ : Nat → Option CSem} {dst : Nat} {r : ORes} (he : evalOp X.P Γ (look st) E dst (.makeFunc (.func f) first caps) o.type = some r) {x : r.α} (_hx : r.run = some x) :
    Does X st a w o (r.out x).ev (r.out x).upd := by
  simp only [evalOp] at he
  split at he
  · rename_i hf
    obtain ⟨es, hes, rfl⟩ := Option.map_eq_some_iff.1 he
    have hf0 : first = #[] := by simpa using hf
    refine Does.value (v := .func (.func f) #[] (caps.map a.eval)) ?_ h ?_
    · simp [execOp, ho, Instr.makeFunc, hf0]
    · simp only [ORes.just, EVR]
      exact ⟨_, rfl, by have := EVRL_mapM (tv := Go.Pv.tv a) caps.toList es hE hes; simp only [Array.toList_map]; exact this⟩
  · cases he

/-! ### elements -/
theorem ckI_some {i : Int} {n : Nat} {z : Unit} (h : ckI i n = some z) : 0 ≤ i ∧ i < n := by
  unfold ckI at h
  split at h
  · assumption
  · cases h

theorem op_indexAddr (h : Inv X st a w B G) (hE : EOk X st a w B G E) {o : Oper} {t : TypeId} {z y : Operand} (ho : o.op = .indexAddr t z y) {Γ : Nat → Option CSem} {dst : Nat} {r : ORes} (he : evalOp X.P Γ (look st) E dst (.indexAddr t z y) o.type = some r) {x : r.α} (hx : r.run = some x) :
    Does X st a w o (r.out x).ev (r.out x).upd := by
  simp only [evalOp] at he
  obtain ⟨ez, hez, he⟩ := bind_some he
  obtain ⟨ey, hey, he⟩ := bind_some he
  obtain ⟨⟨k, i⟩, hi, he⟩ := bind_some he
  have hvz := hE z ez hez
  have hvy := hE y ey hey
  split at he
  · -- an array behind a pointer
    rename_i m e hu
    have hrun : ∀ b off i e', a.eval z = .pointer (some ⟨b, off, none⟩) → a.eval y = .int k i → 0 ≤ i → i < m → sizeOk X.P e e' = true →
        (execOp a.eval o).run X.P w = .ok (.value (.pointer (some ⟨b, off + i.toNat * e'.size, none⟩))) w := by
      intro b off i e' h1 h2 h3 h4 h5
      have hadd : (⟨b, off, none⟩ : Addr).add (i.toNat * e'.size) = ⟨b, off + i.toNat * e'.size, none⟩ := by
        simp only [Addr.add]; split
        · rename_i h0; rw [h0]; rfl
        · rfl
      simp [execOp, ho, h1, h2, Instr.indexAt, asIntOf, underlying, hu, Instr.sureAddr, h3, h4, run_sizeOf (w := w) h5, hadd]
    split at he
    · rename_i n p _ _
      obtain ⟨q, hq, he⟩ := bind_some he
      split at he
      · rename_i m' e' _
        split at he
        · rename_i hk
          simp only [Bool.and_eq_true] at hk
          obtain rfl := Nat.eq_of_beq_eq_true hk.1
          obtain rfl := Option.some.inj he
          obtain ⟨i', hi', hx⟩ := bind_some hx
          obtain ⟨_, hck, hxx⟩ := Option.map_eq_some_iff.1 hx
          have hi2 : i = some i' := hi'
          subst hi2
          obtain ⟨h0, h1⟩ := ckI_some hck
          obtain ⟨hiv, _⟩ := int?_ok h hvy hi
          simp only [EVR] at hvz
          obtain ⟨d, o', u', b, off, hd, ho', hg, hvv⟩ := hvz
          simp only [listAt, hd, Option.bind_some] at hq
          obtain ⟨oo, hoo⟩ := getP_off p _ _ hq
          rw [ho'] at hoo
          simp only [Option.some.injEq, Prod.mk.injEq] at hoo
          obtain ⟨rfl, rfl⟩ := hoo
          refine Does.value (hrun b (off + o') i' e' hvv hiv h0 h1 hk.2) h ?_
          simp only []
          have hx' : i' = x := hxx
          rw [← hx']
          simp only [EVR]
          refine ⟨d, o' + i'.toNat * e'.size, e', b, off, hd, ?_, hg, by rw [Nat.add_assoc]⟩
          rw [offP_append, ho']
          simp [offP, offS]
        · cases he
      · cases he
    · rename_i d
      split at he
      · rename_i m' e' xs _
        split at he
        · rename_i hk
          simp only [Bool.and_eq_true] at hk
          obtain rfl := Nat.eq_of_beq_eq_true hk.1
          obtain rfl := Option.some.inj he
          obtain ⟨i', hi', hx⟩ := bind_some hx
          have hi2 : i = some i' := hi'
          subst hi2
          obtain ⟨hiv, _⟩ := int?_ok h hvy hi
          obtain ⟨h0, hxi⟩ := rdI_some hx
          simp only [EVR] at hvz
          obtain ⟨hp, b, off, cells, hvv, hB, hr, hR⟩ := hvz
          obtain ⟨hn, hR⟩ := hR
          have hlt : i' < m := by
            have h1 := (List.getElem?_eq_some_iff.1 hxi).1
            have hn : List.length (α := T e') xs = m := hn
            have : i'.toNat < m := by rw [← hn]; exact h1
            omega
          obtain ⟨c1, c2, c3, F1, F2, F3, e1, e2, e3, e4, _⟩ := RelL_split (fun x cs F h => Rel_length w B e' x cs F h) _ _ _ _ _ hR hxi
          refine Does.value (hrun b off i' e' hvv hiv h0 hlt hk.2) h ?_
          simp only [ODyn.res, EVR]
          have hp : e'.pure = true := hp
          obtain rfl := Rel_pure w B _ _ _ _ hp e4
          refine ⟨hp, b, off + i'.toNat * e'.size, c2, rfl, ?_, ?_, e4⟩
          · rcases hB with hB | hB
            · exact .inl hB
            · right
              rw [e1] at hB
              exact (List.append_eq_nil_iff.1 (List.append_eq_nil_iff.1 hB).1).2
          · intro j c hj
            rw [← e3, Nat.add_assoc]
            refine hr (c1.length + j) c ?_
            rw [e1, List.append_assoc, List.getElem?_append_right (by omega), Nat.add_sub_cancel_left, List.getElem?_append_left (List.getElem?_eq_some_iff.1 hj).1]
            exact hj
        · cases he
      · cases he
    · cases he
  · -- a slice
    rename_i e hu
    obtain ⟨ez', hfz, he⟩ := bind_some he
    have hvz' := fix_ok hvz hfz
    obtain ⟨q, hq, he⟩ := bind_some he
    have hrun : ∀ b off i e' len cap, a.eval z = .slice (some ⟨b, off, none⟩) len cap → a.eval y = .int k i → 0 ≤ i → i < len → sizeOk X.P e e' = true →
        (execOp a.eval o).run X.P w = .ok (.value (.pointer (some ⟨b, off + i.toNat * e'.size, none⟩))) w := by
      intro b off i e' len cap h1 h2 h3 h4 h5
      have hadd : (⟨b, off, none⟩ : Addr).add (i.toNat * e'.size) = ⟨b, off + i.toNat * e'.size, none⟩ := by
        simp only [Addr.add]; split
        · rename_i h0; rw [h0]; rfl
        · rfl
      simp [execOp, ho, h1, h2, Instr.indexAt, asIntOf, underlying, hu, h3, h4, run_sizeOf (w := w) h5, hadd]
    split at he
    · rename_i e' xs n p _
      split at he
      · rename_i hk
        obtain rfl := Option.some.inj he
        obtain ⟨i', hi', hx⟩ := bind_some hx
        obtain ⟨_, hck, hxx⟩ := Option.map_eq_some_iff.1 hx
        have hi2 : i = some i' := hi'
        subst hi2
        obtain ⟨h0, h1⟩ := ckI_some hck
        obtain ⟨hiv, _⟩ := int?_ok h hvy hi
        obtain ⟨F, hR, ha⟩ := rd_ok h hvz' hq
        obtain ⟨sv, hsv, hown⟩ := hR
        have hsv := cells_one hsv ha
        rcases hown with ⟨hb, _, _⟩ | ⟨b, cap, c, F', hsv2, _, _, _, _, _, _⟩
        · have hb : xs = [] := hb
          subst hb
          simp at h1
          omega
        · subst hsv2
          simp only [EVR] at hvz'
          obtain ⟨d, o', u', hd, ho', hcs, hag⟩ := hvz'
          refine Does.value (hrun b 0 i' e' _ cap hsv hiv h0 h1 hk) h ?_
          simp only []
          have hx' : i' = x := hxx
          rw [← hx']
          simp only [EVR]
          simp only [EV.rd, hd, Option.bind_some] at hq
          obtain ⟨oo, hoo⟩ := getP_off p _ _ hq
          have hoo2 := hoo
          rw [ho'] at hoo2
          simp only [Option.some.injEq, Prod.mk.injEq] at hoo2
          obtain ⟨rfl, rfl⟩ := hoo2
          refine ⟨d, o', _, b, List.length (α := T e') xs, cap, 0, e', hd, ho', ?_, rfl, by rw [Nat.zero_add, Nat.add_zero]⟩
          rw [hsv] at hcs
          have hcs : [Value.slice (some ⟨b, 0, none⟩) xs.length cap] = ((G n).cells.drop o').take 1 := by simpa [Value.cells, Ty.size] using hcs
          have := congrArg (fun l => l[0]?) hcs
          simp at this
          rw [← this]
      · cases he
    · split at he
      · rename_i hk
        obtain rfl := Option.some.inj he
        obtain ⟨i', hi', hx⟩ := bind_some hx
        have hi2 : i = some i' := hi'
        subst hi2
        obtain ⟨hiv, _⟩ := int?_ok h hvy hi
        obtain ⟨h0, hxi⟩ := rdI_some hx
        obtain ⟨F, hR, ha⟩ := rd_ok h hvz' hq
        obtain ⟨_, sv, hsv, a0, cap, cells, hsv2, hlc, hcm, _, hcl, hRL, hA⟩ := hR
        have hsv := cells_one hsv ha
        have hlen := (List.getElem?_eq_some_iff.1 hxi).1
        cases a0 with
        | none =>
          exfalso
          have hA : cap = 0 := hA
          omega
        | some ad =>
          rcases hA with hA | ⟨hsp, hB, hrows⟩
          · exfalso; rw [hA] at hlen; simp at hlen
          · obtain ⟨bl, off, sp⟩ := ad
            have hsp : sp = none := hsp
            subst hsp
            subst hsv2
            obtain ⟨c1, c2, c3, F1, F2, F3, e1, e2, e3, e4, _⟩ := RelL_split (fun x cs F h => Rel_length w B _ x cs F h) _ _ _ _ _ hRL hxi
            have hF2 : F2 = [] := by
              have := (List.append_eq_nil_iff.1 (e2.symm)).1
              exact (List.append_eq_nil_iff.1 this).2
            subst hF2
            simp only [Bool.and_eq_true] at hk
            refine Does.value (hrun bl off i' _ _ cap hsv hiv h0 (by omega) hk.1) h ?_
            simp only [ODyn.res, EVR]
            refine ⟨hk.2, bl, _, c2, rfl, .inl hB, ?_, e4⟩
            intro j c hj
            rw [← e3, Nat.add_assoc]
            refine hrows (c1.length + j) c ?_
            rw [e1, List.append_assoc, List.getElem?_append_right (by omega), Nat.add_sub_cancel_left, List.getElem?_append_left (List.getElem?_eq_some_iff.1 hj).1]
            exact hj
      · cases he
    · cases he
  · cases he

end
end
end Go.Pv
