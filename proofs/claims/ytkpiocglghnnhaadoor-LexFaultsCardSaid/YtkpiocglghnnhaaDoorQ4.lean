/- A plain run of Go code, and that the machine does what it says. -/
import Derived.LoopN
import Derived.Orders
import Derived.Scope
import Derived.Test.YtkpiocglghnnhaaDoorQ3

set_option linter.unusedSimpArgs false
set_option linter.unusedVariables false

namespace Go.Pv
noncomputable section
universe u v

section
variable {X : Cx} {st : St} {a : Act} {w : World} {B : Nat → Prop} {G : Nat → PG} {E : Operand → Option EV}

theorem pickOp_ok (h : Inv X st a w B G) {Ea Eb : Operand → Option EV} {o : Oper} {c x y : Operand} (ho : o.op = .pick c x y) (hE : EOk X st a w B G E) (ha : a.eval c = .bool true → EOk X st a w B G Ea) (hb : a.eval c = .bool false → EOk X st a w B G Eb) {r : ORes} (he : pickOp X.P (look st) E Ea Eb c x y o.type = some r) {z : r.α} (_hz : r.run = some z) :
  Does X st a w o (r.out z).ev (r.out z).upd := by
 unfold pickOp at he
 obtain ⟨ec, hec, he⟩ := bind_some he
 obtain ⟨dc, hdc, he⟩ := bind_some he
 split at he
 ·rename_i g
  have hcv := bool_ok h (hE c ec hec) hdc
  obtain ⟨e1, h1, he⟩ := bind_some he
  split at he
  ·obtain ⟨e3, h4, he⟩ := bind_some he
   obtain ⟨e4, h5, he⟩ := bind_some he
   obtain ⟨d2, h6, he⟩ := bind_some he
   split at he
   ·rename_i t y1
    split at he
    ·rename_i hp
     obtain rfl := Option.some.inj he
     cases g with
     | true => cases _hz
     | false =>
      obtain rfl := Option.some.inj _hz
      exact op_pickR h hE ho hec hdc false (fun _ => hb hcv y e3 h4) h5 h6 hp rfl
    ·cases he
   ·cases he
  ·obtain ⟨e2, h2, he⟩ := bind_some he
   obtain ⟨d1, h3, he⟩ := bind_some he
   obtain ⟨e3, h4, he⟩ := bind_some he
   split at he
   ·split at he
    ·rename_i t x1
     split at he
     ·rename_i hp
      obtain rfl := Option.some.inj he
      cases g with
      | false => cases _hz
      | true =>
       obtain rfl := Option.some.inj _hz
       exact op_pickR h hE ho hec hdc true (fun _ => ha hcv x e1 h1) h2 h3 hp rfl
     ·cases he
    ·cases he
   ·obtain ⟨e4, h5, he⟩ := bind_some he
    obtain ⟨d2, h6, he⟩ := bind_some he
    split at he
    ·rename_i s x1 t y1
     split at he
     ·rename_i hst
      subst hst
      split at he
      ·rename_i hp
       obtain rfl := Option.some.inj he
       exact op_pick h hE ho hec hdc (fun hg => ha (by rw [hcv, hg]) x e1 h1) h2 h3 (fun hg => hb (by rw [hcv, hg]) y e3 h4) h5 h6 hp
      ·cases he
     ·cases he
    ·cases he
 ·cases he

theorem evalOp_ok (h : Inv X st a w B G) {Γ : Nat → Option CSem} (hΓ : ∀ f sem, Γ f = some sem → ContractD X.dr X.P f sem) (hE : EOk X st a w B G E) {o : Oper} {dst : Nat} {r : ORes} (he : evalOp X.P Γ (look st) E dst o.op o.type = some r) {x : r.α} (hx : r.run = some x) :
  Does X st a w o (r.out x).ev (r.out x).upd := by
 cases ho : o.op with
 | move z =>
  rw [ho] at he
  simp only [evalOp] at he
  obtain ⟨e, he1, he⟩ := bind_some he
  obtain ⟨e', hf, rfl⟩ := Option.map_eq_some_iff.1 he
  exact op_moveA h hE ho he1 hf
 | assign z =>
  rw [ho] at he
  simp only [evalOp] at he
  obtain ⟨e, he1, he⟩ := bind_some he
  obtain ⟨e', hf, rfl⟩ := Option.map_eq_some_iff.1 he
  exact op_move h hE (.inr ho) he1 hf
 | pick c y z =>
  rw [ho] at he
  exact pickOp_ok h ho hE (fun _ => hE) (fun _ => hE) he hx
 | alloc t => rw [ho] at he; exact op_alloc h ho he hx
 | box t z => rw [ho] at he; exact op_box h hE ho he hx
 | build t ps => rw [ho] at he; exact op_build h hE ho he hx
 | buildSlice t n ps => rw [ho] at he; exact op_buildSlice h hE ho he hx
 | makeSlice t l c => rw [ho] at he; exact op_makeSlice h hE ho he hx
 | load t z => rw [ho] at he; exact op_load h hE ho he hx
 | store t z y => rw [ho] at he; exact op_store h hE ho he hx
 | nilCheck z => rw [ho] at he; exact op_nilCheck h hE ho he hx
 | binOp op xt z y yt =>
  rw [ho] at he
  simp only [evalOp] at he
  obtain ⟨ex, hex, he⟩ := bind_some he
  obtain ⟨ey, hey, he⟩ := bind_some he
  have hbo : ∃ v, (do eqGuard op xt z y (a.eval z) (a.eval y); Go.binOp op xt (a.eval z) (a.eval y) : Sem Value).run X.P w = .ok v w ∧ (r.out x).upd = [] ∧ EVR (tv a) w B G (look st) (r.out x).ev v := by
   split at he
   ·rename_i q hq
    rw [he] at hq
    exact aliasEq_ok h (x := z) (hE z ex hex) (hE y ey hey) hq
   split at he
   ·rename_i q hq
    rw [he] at hq
    exact ambOp_ok (x := z) h (hE z ex hex) (hE y ey hey) hq hx
   ·exact binOp_ok (x := z) h (hE z ex hex) (hE y ey hey) he hx
  obtain ⟨v, hr, hu, hv⟩ := hbo
  rw [hu]
  refine Does.value (v := v) ?_ h hv
  simp only [Sem.run_bind] at hr
  cases hq : (eqGuard op xt z y (a.eval z) (a.eval y)).run X.P w with
  | ok u w' =>
   rw [hq] at hr
   simp only [Result.andThen_ok] at hr
   simp [execOp, ho, hq, hr]
  | halt u w' => rw [hq] at hr; cases hr
 | unOp op xt z =>
  rw [ho] at he
  simp only [evalOp] at he
  obtain ⟨ex, hex, he⟩ := bind_some he
  obtain ⟨v, hr, hu, hv⟩ := unOp_ok h (hE z ex hex) he hx
  rw [hu]
  refine Does.value (v := v) ?_ h hv
  simp [execOp, ho, hr]
 | convert s t z =>
  rw [ho] at he
  simp only [evalOp] at he
  obtain ⟨ez, hez, he⟩ := bind_some he
  obtain ⟨ez', hfz, he⟩ := bind_some he
  obtain ⟨u, hu, he⟩ := bind_some he
  obtain ⟨d, hd, he⟩ := bind_some he
  have hv := fix_ok (hE z ez hez) hfz
  split at he
  ·obtain ⟨q, hq, he⟩ := bind_some he
   split at he
   ·rename_i k _ k' n
    obtain rfl := Option.some.inj he
    obtain ⟨n', hn, rfl⟩ := Option.map_eq_some_iff.1 hx
    have hn : n = some n' := hn
    subst hn
    exact op_convert_int h ho hd hu hv hq
   ·cases he
  ·obtain ⟨q, hq, he⟩ := bind_some he
   split at he
   ·rename_i k _ n
    obtain rfl := Option.some.inj he
    exact op_convert_rune h ho hd hu hv hq
   ·cases he
  ·obtain ⟨q, hq, he⟩ := bind_some he
   split at he
   ·obtain rfl := Option.some.inj he
    exact op_convert_str h ho hd hu hv hq
   ·cases he
  ·split at he
   ·rename_i hu8
    obtain ⟨q, hq, he⟩ := bind_some he
    exact op_convert_bs h ho hd (isU8_ok hu8) hu hv he hq x
   ·cases he
  ·split at he
   ·rename_i hu8
    obtain ⟨q, hq, he⟩ := bind_some he
    split at he
    ·obtain rfl := Option.some.inj he
     exact op_convert_sb h ho hd (isU8_ok hu8) hu hv hq dst
    ·cases he
   ·cases he
  ·cases he
 | makeInterface t z => rw [ho] at he; exact op_makeInterface h hE ho he hx
 | makeFunc fn first caps =>
  rw [ho] at he
  cases fn with
  | func f => exact op_makeFunc h hE ho he hx
  | _ => simp only [evalOp] at he; cases he
 | slice t z lo hi mx => rw [ho] at he; exact op_slice h hE ho he hx
 | fieldAddr s z f => rw [ho] at he; exact op_fieldAddr h hE ho he hx
 | field s z f => rw [ho] at he; exact op_field h hE ho he hx
 | indexAddr t z y => rw [ho] at he; exact op_indexAddr h hE ho he hx
 | index t z y => rw [ho] at he; exact op_index h hE ho he hx
 | typeAssert z xt at_ ok => rw [ho] at he; exact op_typeAssert h hE ho he hx
 | range t z => rw [ho] at he; exact op_range h hE ho he hx
 | next z b =>
  rw [ho] at he
  cases b with
  | true => exact op_next h hE ho he hx
  | false => cases he
 | extract z i => rw [ho] at he; exact op_extract h hE ho he hx
 | call c =>
  rw [ho] at he
  have he0 := he
  simp only [evalOp] at he
  split at he
  ·rename_i hc; exact op_len h hE ho hc he0 hx
  ·rename_i hc; exact op_minmax h hE ho (.inl hc) he0 hx
  ·rename_i hc; exact op_minmax h hE ho (.inr hc) he0 hx
  ·rename_i hc; exact op_append h hE ho hc he0 hx
  ·rename_i f hc
   obtain ⟨xs, hxs, he⟩ := bind_some he
   have hes := EVRL_mapM (tv := tv a) c.args.toList xs hE hxs
   refine callS_ok h hΓ ?_ hes he hx ?_
   ·intro i e e' hf
    obtain ⟨t, ht, hf⟩ := bind_some hf
    exact .inl ⟨t, hf⟩
   ·have : (c.args.toList.map a.eval).toArray = c.args.map a.eval := by apply Array.ext'; simp
    rw [this]
    simp [execOp, ho, resolve, hc, Act.eval, Deferred.ofValue, invoke]
  ·rename_i t hc
   obtain ⟨eg, heg, he⟩ := bind_some he
   split at he
   ·rename_i f caps
    obtain ⟨xs, hxs, he⟩ := bind_some he
    have hes := EVRL_mapM (tv := tv a) c.args.toList xs hE hxs
    have hg := hE _ _ heg
    simp only [EVR] at hg
    obtain ⟨vs, hgv, hcaps⟩ := hg
    have happ : EVRL (tv a) w B G (look st) (xs ++ caps) (c.args.toList.map a.eval ++ vs.toList) := by
     have key : ∀ (l1 l2 : List EV) (v1 v2 : List Value), EVRL (tv a) w B G (look st) l1 v1 → EVRL (tv a) w B G (look st) l2 v2 → EVRL (tv a) w B G (look st) (l1 ++ l2) (v1 ++ v2) := by
      intro l1
      induction l1 with
      | nil => intro l2 v1 v2 h1 h2; simp only [EVRL] at h1; subst h1; exact h2
      | cons e l1 ih =>
       intro l2 v1 v2 h1 h2
       simp only [EVRL] at h1
       obtain ⟨v, r, rfl, h3, h4⟩ := h1
       simp only [List.cons_append, EVRL]
       exact ⟨v, _, rfl, h3, ih l2 r v2 h4 h2⟩
     exact key _ _ _ _ hes hcaps
    refine callOp_ok h hΓ ?_ happ he hx ?_
    ·intro i e e' hf
     split at hf
     ·rename_i t' _; exact .inl ⟨t', hf⟩
     ·exact .inr (Option.some.inj hf).symm
    ·have : (c.args.toList.map a.eval ++ vs.toList).toArray = c.args.map a.eval ++ vs := by apply Array.ext'; simp
     rw [this]
     simp [execOp, ho, resolve, hc, hgv, Deferred.ofValue, invoke]
   ·cases he
  ·rename_i z name hc
   split at he
   ·rename_i hem
    exact op_invoke h hE hΓ ho hc (by simpa using hem) he hx
   ·cases he
  ·cases he
 | _ => rw [ho] at he; simp only [evalOp] at he; cases he

theorem Eop_ok (h : Inv X st a w B G) (gs : List (Nat × Bool)) (hg : ∀ q ∈ gs, tv a q.1 = .bool q.2) : EOk X st a w B G (Eop st.env gs) := by
 intro z e he
 cases z with
 | tmp t =>
  simp only [Eop] at he
  obtain ⟨e0, hlk, rfl⟩ := Option.map_eq_some_iff.1 he
  have hm : EVR (tv a) w B G (look st) e0 (a.eval (.tmp t)) := h.env t e0 hlk
  cases e0 with
  | maybe t' w' c v =>
   simp only [unw]
   cases hc : gs.any (fun q => Nat.beq q.1 t' && (q.2 == w')) with
   | true =>
    obtain ⟨q, hq, hc⟩ := List.any_eq_true.1 hc
    simp only [Bool.and_eq_true, beq_iff_eq] at hc
    have h1 := Nat.eq_of_beq_eq_true hc.1
    have h2 := hg q hq
    rw [h1, hc.2] at h2
    simp only [EVR] at hm
    simp only [cond_true]
    cases c with
    | true => exact hm.1 rfl
    | false => exact absurd h2 (hm.2 rfl).1
   | false => exact hm
  | _ => exact hm
 | const v =>
  obtain rfl := Option.some.inj he
  simp only [EVR]; rfl
 | func f =>
  obtain rfl := Option.some.inj he
  simp only [EVR, EVRL]
  exact ⟨#[], rfl, rfl⟩
 | global g => cases he

theorem opE_ok (h : Inv X st a w B G) {Γ : Nat → Option CSem} (hΓ : ∀ f sem, Γ f = some sem → ContractD X.dr X.P f sem) {gs : List (Nat × Bool)} (hg : ∀ q ∈ gs, tv a q.1 = .bool q.2) {o : Oper} {dst : Nat} {r : ORes} (he : opE X.P Γ (look st) st.env gs dst o.op o.type = some r) {x : r.α} (hx : r.run = some x) :
  Does X st a w o (r.out x).ev (r.out x).upd := by
 unfold opE at he
 split at he
 ·rename_i t y z ho
  refine pickOp_ok h ho (Eop_ok h gs hg) (fun hc => Eop_ok h _ ?_) (fun hc => Eop_ok h _ ?_) he hx
  ·intro q hq
   rcases List.mem_cons.1 hq with rfl | hq
   ·exact hc
   ·exact hg q hq
  ·intro q hq
   rcases List.mem_cons.1 hq with rfl | hq
   ·exact hc
   ·exact hg q hq
 ·exact evalOp_ok h hΓ (Eop_ok h _ hg) he hx

theorem putO_ok {st st' : St} (h : Inv X st a w B G) {e : EV} {v : Value} (hv : EVR (tv a) w B G (look st) e v) {dst : Option Nat} (hp : putO X.nt dst e st = some st') : Inv X st' (a.put dst v) w B G := by
 unfold putO at hp
 split at hp
 ·rename_i d
  split at hp
  ·rename_i hk
   simp only [Bool.and_eq_true, Bool.not_eq_true'] at hk
   obtain rfl := Option.some.inj hp
   exact h.put (by simpa [Nat.blt_eq] using hk.1) hv hk.2
  ·cases hp
 ·obtain rfl := Option.some.inj hp
  exact h

theorem mergeU_true (L : Look) : ∀ (U u : Upds), mergeU true L U = some u → u = U
 | [], u, h => (Option.some.inj h).symm
 | (n, .set d) :: r, u, h => by
  simp only [mergeU] at h
  obtain ⟨o, ho, h⟩ := bind_some h
  split at h
  ·obtain ⟨z, hz, rfl⟩ := Option.map_eq_some_iff.1 h
   rw [mergeU_true L r z hz]; rfl
  ·cases h
 | (n, .keep d) :: r, u, h => by
  simp only [mergeU] at h
  obtain ⟨o, ho, h⟩ := bind_some h
  split at h
  ·obtain ⟨z, hz, rfl⟩ := Option.map_eq_some_iff.1 h
   rw [mergeU_true L r z hz]; rfl
  ·cases h
 | (n, .del) :: r, u, h => by cases h
 | (n, .new d) :: r, u, h => by cases h

def Idle (L : Look) : Upds → Prop
 | [] => True
 | u :: r => (∃ d, L u.1 = some d ∧ (u.2 = .set d ∨ u.2 = .keep d)) ∧ Idle L r

theorem mergeU_false (L : Look) : ∀ (U u : Upds), mergeU false L U = some u → Idle L u
 | [], u, h => by obtain rfl := Option.some.inj h; trivial
 | (n, .set d) :: r, u, h => by
  simp only [mergeU] at h
  obtain ⟨o, ho, h⟩ := bind_some h
  split at h
  ·rename_i hty
   obtain ⟨z, hz, rfl⟩ := Option.map_eq_some_iff.1 h
   refine ⟨⟨o, ho, .inl ?_⟩, mergeU_false L r z hz⟩
   obtain ⟨ty, x⟩ := o
   have hty : ty = d.ty := hty
   subst hty
   rfl
  ·cases h
 | (n, .keep d) :: r, u, h => by
  simp only [mergeU] at h
  obtain ⟨o, ho, h⟩ := bind_some h
  split at h
  ·rename_i hty
   obtain ⟨z, hz, rfl⟩ := Option.map_eq_some_iff.1 h
   refine ⟨⟨o, ho, .inr ?_⟩, mergeU_false L r z hz⟩
   obtain ⟨ty, x⟩ := o
   have hty : ty = d.ty := hty
   subst hty
   rfl
  ·cases h
 | (n, .del) :: r, u, h => by cases h
 | (n, .new d) :: r, u, h => by cases h

theorem Idle.pl : ∀ (U : Upds) (s : St) (L : Look), (∀ n, lk n s.pl = L n) → Idle L U → ∀ n, lk n (applyU U s).pl = L n
 | [], s, L, h, _, n => h n
 | u :: r, s, L, h, ⟨⟨d, hd, hu⟩, hr⟩, n => by
  refine Idle.pl r (apply1 u s) L (fun m => ?_) hr n
  rw [apply1_pl]
  split
  ·rename_i e
   rw [e, hd]
   rcases hu with hu | hu <;> rw [hu]
  ·exact h m

theorem Inv.idle (h : Inv X st a w B G) {U : Upds} (hU : Idle (look st) U) : Inv X (applyU U st) a w B G := by
 have hl := Idle.pl U st (look st) (fun _ => rfl) hU
 have hmem : ∀ (U : Upds), Idle (look st) U → ∀ u ∈ U, ∃ d, look st u.1 = some d ∧ (u.2 = .set d ∨ u.2 = .keep d) := by
  intro U
  induction U with
  | nil => intro _ u hu; cases hu
  | cons v U ih =>
   intro hU u hu
   obtain ⟨h1, h2⟩ := hU
   rcases List.mem_cons.1 hu with rfl | hu
   ·exact h1
   ·exact ih h2 u hu
 refine h.move U w B G (Nat.le_refl _) ⟨rfl, rfl, rfl, fun _ => Nat.le_refl _⟩ (fun b hb => ⟨rfl, hb⟩) h.bsz (fun _ _ h => .inl h) (fun _ _ _ => rfl) ?_ ?_ (fun _ _ => rfl) ?_ ?_ (fun _ _ _ _ _ _ _ => rfl) ?_
 ·intro n d hd
  rw [hl] at hd
  exact ⟨h.pl n d hd, h.sep n d hd⟩
 ·intro n m d d' hd hd'
  rw [hl] at hd hd'
  exact h.apart n m d d' hd hd'
 ·intro u hu
  obtain ⟨d, hd, _⟩ := hmem U hU u hu
  exact .inr ⟨rfl, ⟨d, d, hd, by rw [hl]; exact hd, rfl⟩, .inr (.inl rfl)⟩
 ·intro k d hk
  rw [hl] at hk
  exact h.obj k d hk
 ·intro u hu hd
  obtain ⟨d, _, hu⟩ := hmem U hU u hu
  rcases hu with hu | hu <;> (rw [hu] at hd; cases hd)

theorem yielded_ok {ops : Array Oper} {j t : Nat} {g : Bool} (hj : (ops[j]?).bind (·.dst) = some t) (ht : tv a t = .bool g) : yielded ops a.tmps j = some g := by
 unfold yielded
 rw [hj]
 simp only [Option.bind_some]
 have ht : a.tmps.getD t undef = .bool g := ht
 cases hh : a.tmps[t]? with
 | none =>
  have : a.tmps.getD t undef = undef := by simp [Array.getD_eq_getD_getElem?, hh]
  rw [this] at ht; cases ht
 | some v =>
  have : a.tmps.getD t undef = v := by simp [Array.getD_eq_getD_getElem?, hh]
  rw [this] at ht; rw [ht]

theorem yielded_undef {ops : Array Oper} {j t : Nat} (hj : (ops[j]?).bind (·.dst) = some t) (ht : tv a t = undef) : yielded ops a.tmps j = none := by
 unfold yielded
 rw [hj]
 simp only [Option.bind_some]
 have ht : a.tmps.getD t undef = undef := ht
 cases hh : a.tmps[t]? with
 | none => rfl
 | some v =>
  have : a.tmps.getD t undef = v := by simp [Array.getD_eq_getD_getElem?, hh]
  rw [this] at ht; rw [ht]; rfl

theorem boolOf_ok (h : Inv X st a w B G) {e : EV} {v : Value} {g : Bool} (hv : EVR (tv a) w B G (look st) e v) (hg : boolOf (look st) e = some g) : v = .bool g := by
 unfold boolOf at hg
 obtain ⟨d, hd, hg⟩ := bind_some hg
 split at hg
 ·obtain rfl := Option.some.inj hg
  exact bool_ok h hv hd
 ·cases hg

theorem gval_ok (h : Inv X st a w B G) {e : EV} {v : Value} {g : Bool × Bool} (hv : EVR (tv a) w B G (look st) e v) (hg : gval (look st) e = some g) : (g.1 = true ∧ v = .bool g.2) ∨ (g.1 = false ∧ v = undef) := by
 unfold gval at hg
 split at hg
 ·rename_i t0 w0 c e'
  obtain ⟨b, hb, rfl⟩ := Option.map_eq_some_iff.1 hg
  simp only [EVR] at hv
  cases c with
  | true => exact .inl ⟨rfl, boolOf_ok h (hv.1 rfl) hb⟩
  | false => exact .inr ⟨rfl, (hv.2 rfl).2⟩
 ·obtain ⟨b, hb, rfl⟩ := Option.map_eq_some_iff.1 hg
  exact .inl ⟨rfl, boolOf_ok h hv hb⟩

theorem guardE_ok (h : Inv X st a w B G) {ops : Array Oper} {j t : Nat} {g : Bool × Bool} (hg : guardE ops st j = some (t, g)) : (ops[j]?).bind (·.dst) = some t ∧ ((g.1 = true ∧ tv a t = .bool g.2) ∨ (g.1 = false ∧ tv a t = undef)) := by
 unfold guardE at hg
 obtain ⟨o, ho, hg⟩ := bind_some hg
 obtain ⟨t', ht', hg⟩ := bind_some hg
 obtain ⟨e, he, hg⟩ := bind_some hg
 obtain ⟨g', hd, hg⟩ := Option.map_eq_some_iff.1 hg
 simp only [Prod.mk.injEq] at hg
 obtain ⟨rfl, rfl⟩ := hg
 exact ⟨by rw [ho]; exact ht', gval_ok h (h.env _ e he) hd⟩

theorem unrun_ok (h : Inv X st a w B G) {ops : Array Oper} {j : Nat} (hu : unrun ops st j = true) : ∃ t, (ops[j]?).bind (·.dst) = some t ∧ tv a t = undef := by
 unfold unrun at hu
 split at hu
 ·rename_i hs
  obtain ⟨o, ho, hs⟩ := bind_some hs
  obtain ⟨t, ht, hs⟩ := bind_some hs
  refine ⟨t, by rw [ho]; exact ht, ?_⟩
  have := h.env t _ hs
  simpa only [EVR] using this
 ·cases hu

theorem gcond_ok {ops : Array Oper} {j t : Nat} {want : Bool} {g : Bool × Bool} {o : Oper} (hgd : o.guard = some (j, want)) (hd : (ops[j]?).bind (·.dst) = some t) (ht : (g.1 = true ∧ tv a t = .bool g.2) ∨ (g.1 = false ∧ tv a t = undef)) :
  Region.wanted o (yielded ops a.tmps) = gcond want g ∧ (gcond want g = true → tv a t = .bool want) ∧ (gcond want g = false → tv a t ≠ .bool want) := by
 obtain ⟨d, g⟩ := g
 rcases ht with ⟨h1, ht⟩ | ⟨h1, ht⟩
 ·have h1 : d = true := h1
  subst h1
  have ht : tv a t = .bool g := ht
  have hy := yielded_ok hd ht
  refine ⟨?_, ?_, ?_⟩
  ·simp only [Region.wanted, hgd, hy]
   cases g <;> cases want <;> rfl
  ·rw [ht]; cases g <;> cases want <;> simp [gcond]
  ·rw [ht]; cases g <;> cases want <;> simp [gcond]
 ·have h1 : d = false := h1
  subst h1
  have hy := yielded_undef hd ht
  refine ⟨?_, ?_, ?_⟩
  ·simp only [Region.wanted, hgd, hy]
   cases want <;> rfl
  ·intro h; cases h
  ·intro _; rw [ht]; simp [undef]

theorem guardR_some {α β : Type} {b : Bool} {run : Option β} {d : β} {k : β → Option α} {r : α} (h : guardR b run d k = some r) : ∃ x, (b = true → run = some x) ∧ k x = some r := by
 unfold guardR at h
 split at h
 ·rename_i v
  cases b with
  | true => exact ⟨v, fun _ => rfl, h⟩
  | false => exact ⟨d, fun h => (Bool.noConfusion h), h⟩
 ·cases b with
  | true => cases h
  | false => exact ⟨d, fun h => (Bool.noConfusion h), h⟩

theorem evalOps_ok {α : Type} {Γ : Nat → Option CSem} (hΓ : ∀ f sem, Γ f = some sem → ContractD X.dr X.P f sem) {ops : Array Oper} {k : St → Option α} {r : α} {Q : Exit → Act → World → Prop} (hk : ∀ st a w B G, Inv X st a w B G → k st = some r → Q .normal a w) :
  ∀ (l : List Oper) (st : St) (a : Act) (w : World) (B : Nat → Prop) (G : Nat → PG), Inv X st a w B G → evalOps X.P Γ X.nt ops k l st = some r → wpList X.P ops Q l a w
 | [], st, a, w, B, G, h, he => hk st a w B G h he
 | o :: l, st, a, w, B, G, h, he => by
  simp only [evalOps] at he
  simp only [wpList]
  cases hgd : o.guard with
  | none =>
   rw [hgd] at he
   obtain ⟨e, h1, he⟩ := bind_some he
   obtain ⟨x, h2, he⟩ := bind_some he
   rw [e.spl.law] at he
   obtain ⟨st', h3, he⟩ := bind_some he
   have hw : Region.wanted o (yielded ops a.tmps) = true := by simp [Region.wanted, hgd]
   rw [if_pos hw]
   left
   refine opE_ok h hΓ (by simp) h1 h2 _ _ fun v w' B' G' hI hv => ?_
   exact evalOps_ok hΓ hk l st' _ w' B' G' (putO_ok hI hv h3) he
  | some jw =>
   obtain ⟨j, want⟩ := jw
   rw [hgd] at he
   simp only at he
   cases hun : unrun ops st j with
   | true =>
    rw [hun, cond_true] at he
    obtain ⟨t, hd, ht⟩ := unrun_ok h hun
    obtain ⟨hwant, _, _⟩ := gcond_ok (a := a) (g := (false, false)) hgd hd (.inr ⟨rfl, ht⟩)
    obtain ⟨st', h4, he5⟩ := bind_some he
    rw [hwant, show gcond want (false, false) = false from rfl, if_neg (by simp)]
    exact evalOps_ok hΓ hk l st' _ w B G (putO_ok h (by simp only [EVR]) h4) he5
   | false =>
   rw [hun, cond_false] at he
   obtain ⟨⟨t, g⟩, hg, he⟩ := bind_some he
   obtain ⟨hd, ht⟩ := guardE_ok h hg
   obtain ⟨hwant, hgt, hgf⟩ := gcond_ok (a := a) hgd hd ht
   have hdead : ∀ {b : Bool}, gcond want g = b → b = false → ((putO X.nt o.dst .none_ st).bind fun s => evalOps X.P Γ X.nt ops k l s) = some r → if Region.wanted o (yielded ops a.tmps) = true then o.wp X.P a w (wpList X.P ops Q l) Q ∨ (o.asks X.P a w ∧ LetsOut Q) else wpList X.P ops Q l (a.put o.dst undef) w := by
    intro b hb hb2 he
    subst hb2
    obtain ⟨st', h4, he5⟩ := bind_some he
    rw [hwant, hb, if_neg (by simp)]
    exact evalOps_ok hΓ hk l st' _ w B G (putO_ok h (by simp only [EVR]) h4) he5
   simp only at he
   cases h1 : opE X.P Γ (fun n => lk n st.pl) st.env [(t, want)] (o.dst.getD 0) o.op o.type with
   | none =>
    rw [h1] at he
    simp only at he
    cases hb : gcond want g with
    | true => rw [hb] at he; cases he
    | false => rw [hb, cond_false] at he; exact hdead hb rfl he
   | some e =>
   rw [h1] at he
   simp only at he
   obtain ⟨x, h2, he⟩ := guardR_some he
   rw [e.spl.law] at he
   cases h3 : mergeU (gcond want g) (fun n => lk n st.pl) (e.out x).upd with
   | none =>
    rw [h3] at he
    simp only at he
    cases hb : gcond want g with
    | true =>
     rw [hb, cond_true] at he
     obtain ⟨st', h4, he5⟩ := bind_some he
     have h2 := h2 hb
     rw [hwant, hb, if_pos rfl]
     left
     refine opE_ok h hΓ (fun q hq => by obtain rfl := List.mem_singleton.1 hq; exact hgt hb) h1 h2 _ _ fun v w' B' G' hI hv => ?_
     exact evalOps_ok hΓ hk l st' _ w' B' G' (putO_ok hI (by simp only [EVR]; exact ⟨fun _ => hv, fun h => Bool.noConfusion h⟩) h4) he5
    | false => rw [hb, cond_false] at he; exact hdead hb rfl he
   | some u =>
   rw [h3] at he
   simp only at he
   obtain ⟨st', h4, he5⟩ := bind_some he
   cases hb : gcond want g with
   | true =>
    rw [hb] at h3
    have h2 := h2 hb
    have hu := mergeU_true _ _ _ h3
    subst hu
    rw [hwant, hb, if_pos rfl]
    left
    refine opE_ok h hΓ (fun q hq => by obtain rfl := List.mem_singleton.1 hq; exact hgt hb) h1 h2 _ _ fun v w' B' G' hI hv => ?_
    rw [hb] at h4
    exact evalOps_ok hΓ hk l st' _ w' B' G' (putO_ok hI (by simp only [EVR]; exact ⟨fun _ => hv, fun h => Bool.noConfusion h⟩) h4) he5
   | false =>
    rw [hb] at h3 h4
    rw [hwant, hb, if_neg (by simp)]
    have hI := h.idle (mergeU_false _ _ _ h3)
    refine evalOps_ok hΓ hk l st' _ w B G (putO_ok hI ?_ h4) he5
    simp only [EVR]
    exact ⟨fun h => Bool.noConfusion h, fun _ => ⟨hgf hb, by first | rfl | trivial⟩⟩

end
end
end Go.Pv

namespace Go.Pv
noncomputable section

universe u v
theorem bind_cong {α : Type u} {β : Type v} {o : Option α} {f g : α → Option β} (h : ∀ a, o = some a → f a = g a) : o.bind f = o.bind g := by
 cases o with
 | none => rfl
 | some a => exact h a rfl

def Ag (L L' : Look) (e : EV) : Prop := ∀ n, e.hits n true = true → L n = L' n
section
variable {L L' : Look}

theorem Ag.at_ {n : Nat} {p : Path} (h : Ag L L' (.at_ n p)) : L n = L' n := h n (by simp [EV.hits])
theorem Ag.loc {n : Nat} {p : Path} (h : Ag L L' (.loc n p)) : L n = L' n := h n (by simp [EV.hits])
theorem Ag.oel {n : Nat} {p : Path} {t : Ty} {i : Int} {q : Path} (h : Ag L L' (.oel n p t i q)) : L n = L' n := h n (by simp [EV.hits])

theorem Ag.rd {e : EV} (h : Ag L L' e) : e.rd L = e.rd L' := by
 cases e <;> simp only [EV.rd]
 rw [h.at_]

theorem Ag.take {e : EV} (h : Ag L L' e) : e.take L = e.take L' := by
 cases e <;> simp only [EV.take]
 rw [h.at_]

theorem Ag.mv {e : EV} (h : Ag L L' e) : e.mv L = e.mv L' := by
 unfold EV.mv
 split
 ·rw [h.at_]
 ·rw [h.loc]
 ·exact h.take

theorem Ag.int? {e : EV} (h : Ag L L' e) : e.int? L = e.int? L' := by
 unfold EV.int?
 split
 ·rfl
 ·rw [h.rd]

theorem Ag.fix {P : Program} {t : TypeId} {e y : EV} (h : Ag L L' e) (hy : e.fix P t = some y) : Ag L L' y := by
 cases e <;> simp only [EV.fix, Option.some.injEq] at hy
 case cst v =>
  obtain ⟨d, _, rfl⟩ := Option.map_eq_some_iff.1 hy
  intro n hn
  simp [EV.hits] at hn
 all_goals subst hy; exact h

theorem listAt_ag {n : Nat} {p : Path} (h : L n = L' n) : listAt L n p = listAt L' n p := by unfold listAt; rw [h]

theorem Ag.nilTest {u : TypeDesc} {e : EV} (h : Ag L L' e) : nilTest L u e = nilTest L' u e := by
 unfold Go.Pv.nilTest
 split <;> (try split) <;> first | rfl | (rw [h.rd]; done)

theorem ambOp_ag {P : Program} {op : BinOp} {t : TypeId} {x y : EV} {c : Bool} (hx : Ag L L' x) : ambOp P L op t x y c = ambOp P L' op t x y c := by
 unfold ambOp
 rw [hx.rd]

theorem binOp_ag {P : Program} {op : BinOp} {t : TypeId} {x y : EV} {c : Bool} (hx : Ag L L' x) (hy : Ag L L' y) : binOp P L op t x y c = binOp P L' op t x y c := by
 have key : ((x.fix P t).bind fun x => (y.fix P t).bind fun y => (x.rd L).bind fun a => (y.rd L).bind fun b =>
   (match a, b with
   | ⟨.int k, some m⟩, ⟨.int k', some n⟩ => if k = k' then (intOp op k m n).map fun d => d.res fun d => (⟨.val d, []⟩ : Res) else none
   | ⟨.str, some m⟩, ⟨.str, some n⟩ => (strOp op m n).map fun d => d.res fun d => ⟨.val d, []⟩
   | ⟨s, some m⟩, ⟨t', some n⟩ => if h : s = t' then (if P.eqGuardType P.depth t then none else eqBy P 40 t t').bind fun f => match op with
     | .eql => some (ORes.just ⟨.val ⟨.bool, f (h ▸ m) n⟩, []⟩)
     | .neq => some (ORes.just ⟨.val ⟨.bool, !f (h ▸ m) n⟩, []⟩)
     | _ => none
    else none
   | _, _ => none)) = ((x.fix P t).bind fun x => (y.fix P t).bind fun y => (x.rd L').bind fun a => (y.rd L').bind fun b =>
   (match a, b with
   | ⟨.int k, some m⟩, ⟨.int k', some n⟩ => if k = k' then (intOp op k m n).map fun d => d.res fun d => (⟨.val d, []⟩ : Res) else none
   | ⟨.str, some m⟩, ⟨.str, some n⟩ => (strOp op m n).map fun d => d.res fun d => ⟨.val d, []⟩
   | ⟨s, some m⟩, ⟨t', some n⟩ => if h : s = t' then (if P.eqGuardType P.depth t then none else eqBy P 40 t t').bind fun f => match op with
     | .eql => some (ORes.just ⟨.val ⟨.bool, f (h ▸ m) n⟩, []⟩)
     | .neq => some (ORes.just ⟨.val ⟨.bool, !f (h ▸ m) n⟩, []⟩)
     | _ => none
    else none
   | _, _ => none)) := bind_cong fun x' hx' => bind_cong fun y' hy' => by rw [(hx.fix hx').rd, (hy.fix hy').rd]
 unfold binOp
 have hn : ∀ u, nilTest L u x = nilTest L' u x := fun u => hx.nilTest
 split
 ·split
  ·exact bind_cong fun u _ => by rw [hn u]
  ·rfl
 ·rw [hx.int?, hy.int?]
  cases op <;> first | rfl | exact key

theorem unOp_ag {P : Program} {op : UnOp} {t : TypeId} {x : EV} (hx : Ag L L' x) : unOp P L op t x = unOp P L' op t x := by
 unfold unOp
 exact bind_cong fun x' hx' => by rw [(hx.fix hx').rd]

theorem Ag.part {e : EV} (h : Ag L L' e) : e.part L = e.part L' := by
 unfold EV.part
 rw [h.take, h.mv]

theorem mvAll_ag : ∀ {l : List (Nat × EV)}, (∀ q ∈ l, Ag L L' q.2) → mvAll L l = mvAll L' l
 | [], _ => rfl
 | (i, x) :: r, h => by
  simp only [mvAll]
  rw [(h (i, x) (by simp)).part, mvAll_ag fun q hq => h q (by simp [hq])]

theorem takeAll_ag : ∀ {l : List (Nat × EV)}, (∀ q ∈ l, Ag L L' q.2) → takeAll L l = takeAll L' l
 | [], _ => rfl
 | (i, x) :: r, h => by
  simp only [takeAll]
  rw [(h (i, x) (by simp)).take, takeAll_ag fun q hq => h q (by simp [hq])]

theorem mapM_mem {α β : Type} {F : α → Option β} : ∀ {l : List α} {r : List β}, l.mapM F = some r → ∀ y ∈ r, ∃ x ∈ l, F x = some y
 | [], r, h, y, hy => by
  simp only [List.mapM_nil, Option.pure_def, Option.some.injEq] at h
  subst h; cases hy
 | x :: l, r, h, y, hy => by
  rw [List.mapM_cons] at h
  cases hx : F x with
  | none => rw [hx] at h; cases h
  | some y0 =>
   cases hl : l.mapM F with
   | none => rw [hx, hl] at h; cases h
   | some r0 =>
    rw [hx, hl] at h
    obtain rfl : y0 :: r0 = r := Option.some.inj h
    rcases List.mem_cons.1 hy with rfl | hy
    ·exact ⟨x, by simp, hx⟩
    ·obtain ⟨x', h1, h2⟩ := mapM_mem hl y hy
     exact ⟨x', by simp [h1], h2⟩

theorem mapM_cong {α β : Type} {F G : α → Option β} : ∀ {l : List α}, (∀ x ∈ l, F x = G x) → l.mapM F = l.mapM G
 | [], _ => rfl
 | x :: l, h => by
  rw [List.mapM_cons, List.mapM_cons, h x (by simp), mapM_cong fun y hy => h y (by simp [hy])]

section
variable {E : Operand → Option EV} {P : Program}

theorem prs_ag {F : Nat × Operand → EV → Option (Nat × EV)} (hF : ∀ q x z, F q x = some z → Ag L L' x → Ag L L' z.2) {ps : List (Nat × Operand)} (hE : ∀ q ∈ ps, ∀ e, E q.2 = some e → Ag L L' e) {xs : List (Nat × EV)} (h : (ps.mapM fun q => (E q.2).bind (F q)) = some xs) :
  ∀ z ∈ xs, Ag L L' z.2 := by
 intro z hz
 obtain ⟨q, hq, hz⟩ := mapM_mem h z hz
 obtain ⟨x, hx, hz⟩ := bind_some hz
 exact hF q x z hz (hE q hq x hx)

theorem buildOp_ag {dst : Nat} {t : TypeId} {ps : List (Nat × Operand)} (hE : ∀ q ∈ ps, ∀ e, E q.2 = some e → Ag L L' e) : buildOp P L E dst t ps = buildOp P L' E dst t ps := by
 unfold buildOp
 split
 ·refine bind_cong fun xs hxs => ?_
  rw [mvAll_ag (prs_ag (fun q x z hz hx => ?_) hE hxs)]
  obtain ⟨y, hy, rfl⟩ := Option.map_eq_some_iff.1 hz
  obtain ⟨f, _, hy⟩ := bind_some hy
  exact hx.fix hy
 ·refine bind_cong fun xs hxs => ?_
  rw [takeAll_ag (prs_ag (fun q x z hz hx => ?_) hE hxs)]
  obtain ⟨y, hy, rfl⟩ := Option.map_eq_some_iff.1 hz
  exact hx.fix hy
 ·rfl

theorem buildSliceOp_ag {dst : Nat} {t : TypeId} {n : Nat} {ps : List (Nat × Operand)} (hE : ∀ q ∈ ps, ∀ e, E q.2 = some e → Ag L L' e) : buildSliceOp P L E dst t n ps = buildSliceOp P L' E dst t n ps := by
 unfold buildSliceOp
 split
 ·refine bind_cong fun xs hxs => ?_
  rw [takeAll_ag (prs_ag (fun q x z hz hx => ?_) hE hxs)]
  obtain ⟨y, hy, rfl⟩ := Option.map_eq_some_iff.1 hz
  exact hx.fix hy
 ·rfl

theorem pickOp_ag {E Ea Eb : Operand → Option EV} {c a b : Operand} {ty : TypeId} (hc : ∀ e, E c = some e → Ag L L' e) (ha : ∀ e, Ea a = some e → Ag L L' e) (hb : ∀ e, Eb b = some e → Ag L L' e) : pickOp P L E Ea Eb c a b ty = pickOp P L' E Ea Eb c a b ty := by
 unfold pickOp
 refine bind_cong fun x hx => ?_
 rw [(hc x hx).rd]
 refine bind_cong fun d _ => ?_
 split
 ·refine bind_cong fun y hy => ?_
  split
  ·refine bind_cong fun z hz => bind_cong fun z' hz' => ?_
   rw [((hb z hz).fix hz').rd]
  ·refine bind_cong fun y' hy' => ?_
   rw [((ha _ hy).fix hy').rd]
   refine bind_cong fun _ _ => bind_cong fun z hz => ?_
   split
   ·rfl
   ·refine bind_cong fun z' hz' => ?_
    rw [((hb _ hz).fix hz').rd]
 ·rfl

theorem ifaceOp_ag {t : TypeId} {x : EV} (hx : Ag L L' x) : ifaceOp P L t x = ifaceOp P L' t x := by
 unfold ifaceOp
 split
 ·rw [hx.loc]
 ·exact bind_cong fun y hy => by rw [(hx.fix hy).take]

theorem appBase_ag {x : EV} (hx : Ag L L' x) : appBase L x = appBase L' x := by
 unfold appBase
 split
 ·rw [hx.at_]
 ·rfl
 ·rfl
 ·rfl

theorem retype_ag {t : Ty} {x : EV} (hx : Ag L L' x) : Ag L L' (retype t x) := by
 unfold retype
 split
 ·intro n hn; simp [EV.hits] at hn
 ·exact hx

theorem appendOp_ag {dst : Nat} {t t2 : TypeId} {x : EV} {ys : ODyn} (hx : Ag L L' x) : appendOp P L dst t t2 x ys = appendOp P L' dst t t2 x ys := by
 unfold appendOp
 split
 ·split
  ·rw [appBase_ag (retype_ag hx)]
  ·rfl
 ·rfl

theorem arg0_ag {x : EV} (hx : Ag L L' x) : x.arg0 L = x.arg0 L' := by
 unfold EV.arg0
 split
 ·rw [listAt_ag hx.loc]
 ·rfl
 ·rfl
 ·rw [listAt_ag (hx _ (by simp [EV.hits, EV.hitsL]))]
 ·rw [hx.take]

theorem arg_ag {o : Bool} {x : EV} (hx : Ag L L' x) : x.arg L o = x.arg L' o := by
 unfold EV.arg
 rw [arg0_ag hx, appBase_ag hx]

theorem argAll_ag {own : Nat → Bool} {fix : Nat → EV → Option EV} (hf : ∀ i x y, fix i x = some y → Ag L L' x → Ag L L' y) : ∀ (l : List EV) (i : Nat), (∀ x ∈ l, Ag L L' x) → argAll L own fix i l = argAll L' own fix i l
 | [], _, _ => rfl
 | x :: r, i, h => by
  simp only [argAll]
  refine bind_cong fun y hy => ?_
  rw [arg_ag (hf i x y hy (h x (by simp))), argAll_ag hf r (i + 1) fun z hz => h z (by simp [hz])]

theorem arg0_os {x : EV} {z : Option AV × List (Nat × Path) × Upds} (h : x.arg0 L = some z) : ∀ o ∈ z.2.1, x.hits o.1 true = true := by
 unfold EV.arg0 at h
 split at h
 ·obtain ⟨y, _, h⟩ := bind_some h
  split at h
  ·obtain rfl := Option.some.inj h
   intro o ho
   obtain rfl : o = _ := by simpa using ho
   simp [EV.hits]
  ·cases h
 ·obtain rfl := Option.some.inj h; intro o ho; cases ho
 ·obtain rfl := Option.some.inj h; intro o ho; cases ho
 ·obtain ⟨y, _, h⟩ := bind_some h
  split at h
  ·obtain rfl := Option.some.inj h
   intro o ho
   obtain rfl : o = _ := by simpa using ho
   simp [EV.hits, EV.hitsL]
  ·cases h
 ·obtain ⟨y, _, h⟩ := bind_some h
  split at h
  ·obtain rfl := Option.some.inj h; intro o ho; cases ho
  ·cases h

theorem arg_os {o : Bool} {x : EV} {z : Option AV × List (Nat × Path) × Upds} (h : x.arg L o = some z) : ∀ o ∈ z.2.1, x.hits o.1 true = true := by
 unfold EV.arg at h
 cases o with
 | false => exact arg0_os h
 | true =>
  simp only [cond_true] at h
  split at h
  ·obtain rfl := Option.some.inj h; intro o ho; cases ho
  ·exact arg0_os h

theorem argAll_os {own : Nat → Bool} {fix : Nat → EV → Option EV} (hf : ∀ i x y, fix i x = some y → Ag L L' x → Ag L L' y) : ∀ (l : List EV) (i : Nat) (z : List AV × List (Nat × Path) × Upds), (∀ x ∈ l, Ag L L' x) → argAll L own fix i l = some z → ∀ o ∈ z.2.1, L o.1 = L' o.1
 | [], _, z, _, h => by
  simp only [argAll, Option.some.injEq] at h
  subst h
  intro o ho; cases ho
 | x :: r, i, z, hl, h => by
  simp only [argAll] at h
  obtain ⟨y, hy, h⟩ := bind_some h
  obtain ⟨q, hq, h⟩ := bind_some h
  split at h
  ·split at h
   ·cases h
   ·obtain ⟨z', hz', rfl⟩ := Option.map_eq_some_iff.1 h
    intro o ho
    rcases List.mem_append.1 ho with ho | ho
    ·exact hf i x y hy (hl x (by simp)) o.1 (arg_os hq o ho)
    ·exact argAll_os hf r (i + 1) z' (fun w hw => hl w (by simp [hw])) hz' o ho
  ·cases h

theorem objFit_ag : ∀ (os : List (Nat × Path)) (ts : List Ty), (∀ o ∈ os, L o.1 = L' o.1) → objFit L os ts = objFit L' os ts
 | [], [], _ => rfl
 | [], _ :: _, _ => rfl
 | _ :: _, [], _ => rfl
 | (n, p) :: r, t :: l, h => by
  simp only [objFit]
  rw [listAt_ag (h (n, p) (by simp)), objFit_ag r l fun o ho => h o (by simp [ho])]

theorem backOs_ag : ∀ (os : List (Nat × Path)) (ds : List Dyn), (∀ o ∈ os, L o.1 = L' o.1) → backOs L os ds = backOs L' os ds
 | [], [], _ => rfl
 | [], _ :: _, _ => rfl
 | _ :: _, [], _ => rfl
 | (n, p) :: r, d :: l, h => by
  have := h (n, p) (by simp)
  simp only [backOs]
  simp only at this
  rw [this, backOs_ag r l fun o ho => h o (by simp [ho])]

theorem callOp_ag {Γ : Nat → Option CSem} {dst f : Nat} {fix : Nat → EV → Option EV} (hf : ∀ i x y, fix i x = some y → Ag L L' x → Ag L L' y) {l : List EV} (h : ∀ x ∈ l, Ag L L' x) : callOp Γ L dst f fix l = callOp Γ L' dst f fix l := by
 unfold callOp
 refine bind_cong fun sem _ => ?_
 rw [← argAll_ag hf l 0 h]
 refine bind_cong fun z hz => ?_
 have hos := argAll_os hf l 0 z h hz
 refine bind_cong fun s _ => bind_cong fun dv _ => ?_
 have hfit : (s.alts.all fun t => objFit L z.2.1 t.2 && t.1.all RK.ok) = s.alts.all fun t => objFit L' z.2.1 t.2 && t.1.all RK.ok := by
  congr 1
  funext t
  rw [objFit_ag _ _ hos]
 rw [hfit]
 have hout : (fun x : AltT s.alts => callRes L dst z.2.1 (bif lent z.1 (altR s.alts x).1 then [] else z.2.2) (resL (altR s.alts x).1.1 (altR s.alts x).2.1) (objsL (altR s.alts x).1.2 (altR s.alts x).2.2)) =
   fun x => callRes L' dst z.2.1 (bif lent z.1 (altR s.alts x).1 then [] else z.2.2) (resL (altR s.alts x).1.1 (altR s.alts x).2.1) (objsL (altR s.alts x).1.2 (altR s.alts x).2.2) := by
  funext x
  unfold callRes
  rw [backOs_ag _ _ hos]
 rw [hout]

theorem sortOp_ag {z : Srt} {l : List EV} (h : ∀ x ∈ l, Ag L L' x) : sortOp L z l = sortOp L' z l := by
 match l with
 | [.at_ n [], .fn g []] =>
  have h1 := h (.at_ n []) (by simp)
  have h1 : L n = L' n := h1.at_
  simp only [sortOp, h1]
 | [] => rfl
 | [_] => simp only [sortOp]
 | _ :: _ :: _ :: _ => simp only [sortOp]
 | [.at_ _ (_ :: _), _] => simp only [sortOp]
 | [.dead, _] | [.val _, _] | [.cst _, _] | [.clip _ _, _] | [.loc _ _, _] | [.oel _ _ _ _ _, _] | [.ref _, _] | [.tup _, _] | [.fn _ _, _] | [.maybe _ _ _ _, _] | [.any, _] | [.none_, _] | [.alias _ _ _, _] => simp only [sortOp]
 | [.at_ _ [], .dead] | [.at_ _ [], .val _] | [.at_ _ [], .cst _] | [.at_ _ [], .clip _ _] | [.at_ _ [], .at_ _ _] | [.at_ _ [], .loc _ _] | [.at_ _ [], .oel _ _ _ _ _] | [.at_ _ [], .ref _] | [.at_ _ [], .tup _] | [.at_ _ [], .fn _ (_ :: _)] | [.at_ _ [], .maybe _ _ _ _] | [.at_ _ [], .any] | [.at_ _ [], .none_] | [.at_ _ [], .alias _ _ _] => simp only [sortOp]

theorem callS_ag {P : Program} {Γ : Nat → Option CSem} {dst f : Nat} {fix : Nat → EV → Option EV} (hf : ∀ i x y, fix i x = some y → Ag L L' x → Ag L L' y) {l : List EV} (h : ∀ x ∈ l, Ag L L' x) : callS P Γ L dst f fix l = callS P Γ L' dst f fix l := by
 unfold callS
 split
 ·exact sortOp_ag h
 split
 ·unfold payOp
  split
  ·rw [(h _ (by simp)).rd]
  ·rfl
 ·exact callOp_ag hf h

theorem invOp_ag {P : Program} {Γ : Nat → Option CSem} {dst : Nat} {name : String} {d : ODyn} : invOp P Γ L dst name d = invOp P Γ L' dst name d := by
 unfold invOp
 refine bind_cong fun A _ => bind_cong fun dv _ => ?_
 have hfit : (A.all fun t => objFit L [] t.2 && t.1.all RK.ok) = A.all fun t => objFit L' [] t.2 && t.1.all RK.ok := by
  congr 1
  funext t
  rw [objFit_ag _ _ (by simp)]
 rw [hfit]
 have hout : (fun x : AltT A => callRes L dst [] [] (resL (altR A x).1.1 (altR A x).2.1) (objsL (altR A x).1.2 (altR A x).2.2)) =
   fun x => callRes L' dst [] [] (resL (altR A x).1.1 (altR A x).2.1) (objsL (altR A x).1.2 (altR A x).2.2) := by
  funext x
  unfold callRes
  rw [backOs_ag _ _ (by simp)]
 rw [hout]

theorem hitsL_mem {n : Nat} {b : Bool} : ∀ {l : List EV} {x : EV}, x ∈ l → x.hits n b = true → EV.hitsL n b l = true
 | y :: l, x, hx, h => by
  simp only [EV.hitsL, Bool.or_eq_true]
  rcases List.mem_cons.1 hx with rfl | hx
  ·exact .inl h
  ·exact .inr (hitsL_mem hx h)

theorem optI_ag {e : Option EV} (h : ∀ x, e = some x → Ag L L' x) : optI L e = optI L' e := by
 unfold optI
 split
 ·rfl
 ·rw [(h _ rfl).int?]

theorem optE_ag {E : Operand → Option EV} {o : Option Operand} {e : Option EV} (he : (match (generalizing := false) o with | none => some none | some o => (E o).map some) = some e) (h : ∀ x, o = some x → ∀ e, E x = some e → Ag L L' e) : ∀ x, e = some x → Ag L L' x := by
 intro x hx
 subst hx
 cases o with
 | none => cases he
 | some z =>
  obtain ⟨y, hy, hh⟩ := Option.map_eq_some_iff.1 he
  obtain rfl := Option.some.inj hh
  exact h z rfl _ hy

theorem nextOp_ag {x : EV} (hx : Ag L L' x) : nextOp L x = nextOp L' x := by
 unfold nextOp
 split
 ·rw [hx.at_]
 ·rfl

theorem evalOp_ag {Γ : Nat → Option CSem} {E : Operand → Option EV} {dst : Nat} {op : Op} {ty : TypeId} (h : ∀ x ∈ op.operands, ∀ e, E x = some e → Ag L L' e) : evalOp P Γ L E dst op ty = evalOp P Γ L' E dst op ty := by
 cases op <;> simp only [evalOp]
 case pick c a b => exact pickOp_ag (h c (by simp [Op.operands])) (h a (by simp [Op.operands])) (h b (by simp [Op.operands]))
 case box t x =>
  exact bind_cong fun e he => bind_cong fun y hy => by rw [((h x (by simp [Op.operands]) e he).fix hy).mv]
 case build t ps => exact buildOp_ag fun q hq => h q.2 (by simp only [Op.operands, List.mem_toArray, List.mem_map]; exact ⟨q, hq, rfl⟩)
 case buildSlice t n ps => exact buildSliceOp_ag fun q hq => h q.2 (by simp only [Op.operands, List.mem_toArray, List.mem_map]; exact ⟨q, hq, rfl⟩)
 case makeSlice t l c =>
  refine bind_cong fun e he => bind_cong fun e' he' => ?_
  rw [(h l (by simp [Op.operands]) e he).int?, (h c (by simp [Op.operands]) e' he').int?]
 case load t x =>
  refine bind_cong fun e he => ?_
  have := h x (by simp [Op.operands]) e he
  split
  ·rw [listAt_ag this.loc]
  ·rfl
  ·rw [listAt_ag this.oel]
  ·rfl
 case store t x v =>
  refine bind_cong fun e he => bind_cong fun y hy => bind_cong fun z hz => ?_
  have he := h x (by simp [Op.operands]) e he
  have hz := (h v (by simp [Op.operands]) y hy).fix hz
  split
  ·rw [hz.mv]
   refine bind_cong fun r _ => ?_
   rw [he.loc]
  ·rw [hz.take]
   refine bind_cong fun r _ => ?_
   rw [he.oel]
  ·rfl
 case nilCheck x =>
  refine bind_cong fun e he => ?_
  have := (h x (by simp [Op.operands]) e he)
  split <;> first | rfl | (rw [this.rd]; done)
 case makeFunc f first caps => cases f <;> rfl
 case binOp op t x y _ => exact bind_cong fun e he => bind_cong fun e' he' => by rw [ambOp_ag (h x (by simp [Op.operands]) e he), binOp_ag (h x (by simp [Op.operands]) e he) (h y (by simp [Op.operands]) e' he')]
 case unOp op t x => exact bind_cong fun e he => unOp_ag (h x (by simp [Op.operands]) e he)
 case convert s t x =>
  refine bind_cong fun e he => bind_cong fun y hy => ?_
  rw [((h x (by simp [Op.operands]) e he).fix hy).rd]
 case slice t x lo hi mx =>
  refine bind_cong fun e he => bind_cong fun y hy => ?_
  rw [((h x (by simp [Op.operands]) e he).fix hy).take]
  refine bind_cong fun r _ => bind_cong fun lo' hlo => bind_cong fun hi' hhi => bind_cong fun mx' hmx => ?_
  rw [optI_ag (optE_ag hlo fun z hz => h z (by simp [Op.operands, hz])), optI_ag (optE_ag hhi fun z hz => h z (by simp [Op.operands, hz])), optI_ag (optE_ag hmx fun z hz => h z (by simp [Op.operands, hz]))]
 case fieldAddr s x f =>
  refine bind_cong fun e he => ?_
  have := h x (by simp [Op.operands]) e he
  split
  ·refine bind_cong fun fd _ => ?_
   split
   ·rw [listAt_ag this.loc]
   ·rfl
   ·rfl
   ·rfl
  ·rfl
 case field s x f =>
  refine bind_cong fun e he => ?_
  rw [(h x (by simp [Op.operands]) e he).rd]
 case indexAddr t x ix =>
  refine bind_cong fun e he => bind_cong fun i hi => ?_
  have he := h x (by simp [Op.operands]) e he
  rw [(h ix (by simp [Op.operands]) i hi).int?]
  refine bind_cong fun i _ => ?_
  split
  ·split
   ·rw [listAt_ag he.loc]
   ·rfl
   ·rfl
  ·exact bind_cong fun y hy => by rw [(he.fix hy).rd, (he.fix hy).take]
  ·rfl
 case index t x ix =>
  refine bind_cong fun e he => bind_cong fun y hy => bind_cong fun i hi => ?_
  rw [(h ix (by simp [Op.operands]) i hi).int?, ((h x (by simp [Op.operands]) e he).fix hy).rd]
 case makeInterface t x =>
  refine bind_cong fun e he => ?_
  rw [ifaceOp_ag (h x (by simp [Op.operands]) e he)]
 case typeAssert x xt at_ c =>
  exact bind_cong fun e he => bind_cong fun y hy => by rw [((h x (by simp [Op.operands]) e he).fix hy).rd]
 case range t x =>
  exact bind_cong fun e he => bind_cong fun y hy => by unfold rangeOp; rw [((h x (by simp [Op.operands]) e he).fix hy).rd]
 case next x b =>
  cases b with
  | false => rfl
  | true => exact bind_cong fun e he => nextOp_ag (h x (by simp [Op.operands]) e he)
 case call c =>
  have hargs : ∀ x ∈ c.args.toList, ∀ e, E x = some e → Ag L L' e := fun x hx => h x (by simp only [Op.operands, Call.operands, Array.mem_append]; exact .inr (by simpa using hx))
  have hfix : ∀ (i : Nat) (x y : EV), ((c.argTypes[i]?).bind fun t => x.fix P t) = some y → Ag L L' x → Ag L L' y := fun i x y hy hx => by
   obtain ⟨t, _, hy⟩ := bind_some hy
   exact hx.fix hy
  have hfix2 : ∀ (i : Nat) (x y : EV), (match c.argTypes[i]? with | some t => x.fix P t | none => some x) = some y → Ag L L' x → Ag L L' y := fun i x y hy hx => by
   split at hy
   ·exact hx.fix hy
   ·obtain rfl := Option.some.inj hy; exact hx
  split
  ·split
   ·rename_i x t ts hx ht
    exact bind_cong fun e he => bind_cong fun y hy => by rw [((hargs x (by simp [hx]) e he).fix hy).rd]
   ·rfl
  ·split
   ·rename_i x y hx
    exact bind_cong fun e he => bind_cong fun e' he' => by rw [(hargs x (by simp [hx]) e he).int?, (hargs y (by simp [hx]) e' he').int?]
   ·rfl
  ·split
   ·rename_i x y hx
    exact bind_cong fun e he => bind_cong fun e' he' => by rw [(hargs x (by simp [hx]) e he).int?, (hargs y (by simp [hx]) e' he').int?]
   ·rfl
  ·split
   ·rename_i x y t t2 hx ht
    refine bind_cong fun e he => bind_cong fun e' he' => bind_cong fun z hz => bind_cong fun z' hz' => ?_
    rw [((hargs y (by simp [hx]) e' he').fix hz').rd]
    exact bind_cong fun ys _ => appendOp_ag ((hargs x (by simp [hx]) e he).fix hz)
   ·rfl
  ·refine bind_cong fun xs hxs => callS_ag hfix fun x hx => ?_
   obtain ⟨y, hy, hyx⟩ := mapM_mem hxs x hx
   exact hargs y hy x hyx
  ·rename_i t hcal
   refine bind_cong fun g hg => ?_
   have hgA := h (.tmp t) (by simp [Op.operands, Call.operands, hcal]) g hg
   split
   ·refine bind_cong fun xs hxs => callOp_ag hfix2 fun x hx => ?_
    rcases List.mem_append.1 hx with hx | hx
    ·obtain ⟨y, hy, hyx⟩ := mapM_mem hxs x hx
     exact hargs y hy x hyx
    ·exact fun n hn => hgA n (by simp only [EV.hits]; exact hitsL_mem hx hn)
   ·rfl
  ·rename_i z name hcal
   split
   ·refine bind_cong fun x hx => ?_
    rw [(h z (by simp [Op.operands, Call.operands, hcal]) x hx).rd]
    exact bind_cong fun d _ => invOp_ag
   ·rfl
  ·rfl

def lookFree : Op → Bool
 | .move _ => true
 | .assign _ => true
 | .extract _ _ => true
 | .makeFunc _ _ _ => true
 | _ => false

theorem evalOp_free {Γ : Nat → Option CSem} {E : Operand → Option EV} {dst : Nat} {op : Op} {ty : TypeId} (h : lookFree op = true) : evalOp P Γ L E dst op ty = evalOp P Γ L' E dst op ty := by
 cases op
 case makeFunc f _ _ => cases f <;> rfl
 all_goals first | rfl | simp [lookFree] at h

theorem evalOp_E {Γ : Nat → Option CSem} {E E' : Operand → Option EV} {dst : Nat} {op : Op} {ty : TypeId} (h : ∀ x ∈ op.operands, E x = E' x) : evalOp P Γ L E dst op ty = evalOp P Γ L E' dst op ty := by
 cases op <;> simp only [evalOp]
 case pick c a b =>
  unfold pickOp
  rw [h c (by simp [Op.operands]), h a (by simp [Op.operands]), h b (by simp [Op.operands])]
 case build t ps =>
  have hm : ∀ (F : Nat × Operand → EV → Option (Nat × EV)), (ps.toList.mapM fun q => (E q.2).bind (F q)) = (ps.toList.mapM fun q => (E' q.2).bind (F q)) := fun F =>
   mapM_cong fun q hq => by rw [h q.2 (by simp only [Op.operands, List.mem_toArray, List.mem_map]; exact ⟨q, hq, rfl⟩)]
  unfold buildOp
  split
  ·rename_i fs hu
   rw [hm fun q x => ((fs[q.1]?).bind fun f => x.fix P f.type).map fun x => (q.1, x)]
  ·rename_i n e hu
   rw [hm fun q x => (x.fix P e).map fun x => (q.1, x)]
  ·rfl
 case buildSlice t n ps =>
  have hm : ∀ (F : Nat × Operand → EV → Option (Nat × EV)), (ps.toList.mapM fun q => (E q.2).bind (F q)) = (ps.toList.mapM fun q => (E' q.2).bind (F q)) := fun F =>
   mapM_cong fun q hq => by rw [h q.2 (by simp only [Op.operands, List.mem_toArray, List.mem_map]; exact ⟨q, hq, rfl⟩)]
  unfold buildSliceOp
  split
  ·rename_i e hu
   rw [hm fun q x => (x.fix P e).map fun x => (q.1, x)]
  ·rfl
 case slice t x lo hi mx =>
  rw [h x (by simp [Op.operands])]
  have hlo : ∀ z, lo = some z → E z = E' z := fun z hz => h z (by simp [Op.operands, hz])
  have hhi : ∀ z, hi = some z → E z = E' z := fun z hz => h z (by simp [Op.operands, hz])
  have hmx : ∀ z, mx = some z → E z = E' z := fun z hz => h z (by simp [Op.operands, hz])
  clear h
  cases lo <;> cases hi <;> cases mx <;> dsimp only <;> (try rw [hlo _ rfl]) <;> (try rw [hhi _ rfl]) <;> (try rw [hmx _ rfl])
 case makeFunc f first caps =>
  cases f <;> simp only [evalOp]
  have : caps.toList.mapM E = caps.toList.mapM E' := mapM_cong fun x hx => h x (by simp only [Op.operands, Array.mem_append]; exact .inr (by simpa using hx))
  rw [this]
 case call c =>
  have hargs : ∀ x ∈ c.args.toList, E x = E' x := fun x hx => h x (by simp only [Op.operands, Call.operands, Array.mem_append]; exact .inr (by simpa using hx))
  have hm : c.args.toList.mapM E = c.args.toList.mapM E' := mapM_cong hargs
  split
  ·split
   ·rename_i x t ts hx ht
    rw [hargs x (by simp [hx])]
   ·rfl
  ·split
   ·rename_i x y hx
    rw [hargs x (by simp [hx]), hargs y (by simp [hx])]
   ·rfl
  ·split
   ·rename_i x y hx
    rw [hargs x (by simp [hx]), hargs y (by simp [hx])]
   ·rfl
  ·split
   ·rename_i x y t t2 hx ht
    rw [hargs x (by simp [hx]), hargs y (by simp [hx])]
   ·rfl
  ·rw [hm]
  ·rename_i t hcal
   rw [h (.tmp t) (by simp [Op.operands, Call.operands, hcal]), hm]
  ·rename_i z name hcal
   rw [h z (by simp [Op.operands, Call.operands, hcal])]
  ·rfl
 case next x b =>
  cases b with
  | false => rfl
  | true =>
   simp only [evalOp]
   rw [h x (by simp [Op.operands])]
 all_goals first
  | rfl
  | (rename_i x _ _; rw [h x (by simp [Op.operands])]; done)
  | (rename_i x _; rw [h x (by simp [Op.operands])]; done)
  | (rename_i x; rw [h x (by simp [Op.operands])]; done)
  | (rename_i x y; rw [h x (by simp [Op.operands]), h y (by simp [Op.operands])]; done)
  | (rename_i x y _; rw [h x (by simp [Op.operands]), h y (by simp [Op.operands])]; done)
  | (rename_i x _ _ _; rw [h x (by simp [Op.operands])]; done)

end
end
end
end Go.Pv

namespace Go.Pv
noncomputable section

mutual
def EV.names : EV → List Nat
 | .at_ m _ => [m]
 | .oel m _ _ _ _ => [m]
 | .loc m _ => [m]
 | .tup l => EV.namesL l
 | .fn _ l => EV.namesL l
 | .maybe _ _ _ v => v.names
 | _ => []
def EV.namesL : List EV → List Nat
 | [] => []
 | x :: r => x.names ++ EV.namesL r
end

mutual
def EV.hangN : EV → List Nat
 | .maybe t _ _ v => t :: v.hangN
 | .alias t _ _ => [t]
 | .tup l => EV.hangNL l
 | .fn _ l => EV.hangNL l
 | _ => []
def EV.hangNL : List EV → List Nat
 | [] => []
 | x :: r => x.hangN ++ EV.hangNL r
end

mutual
theorem hits_names : ∀ (e : EV) (n : Nat) (b : Bool), e.hits n b = true → n ∈ e.names
 | .at_ m _, n, b, h => by simp [EV.hits] at h; simp [EV.names, h]
 | .oel m _ _ _ _, n, b, h => by simp [EV.hits] at h; simp [EV.names, h]
 | .loc m _, n, b, h => by simp [EV.hits] at h; simp [EV.names, h]
 | .tup l, n, b, h => by simp only [EV.hits] at h; simp only [EV.names]; exact hitsL_names l n b h
 | .fn _ l, n, b, h => by simp only [EV.hits] at h; simp only [EV.names]; exact hitsL_names l n b h
 | .maybe _ _ _ v, n, b, h => by simp only [EV.hits] at h; simp only [EV.names]; exact hits_names v n b h
 | .dead, n, b, h => by simp [EV.hits] at h
 | .val _, n, b, h => by simp [EV.hits] at h
 | .cst _, n, b, h => by simp [EV.hits] at h
 | .clip _ _, n, b, h => by simp [EV.hits] at h
 | .ref _, n, b, h => by simp [EV.hits] at h
 | .alias _ _ _, n, b, h => by simp [EV.hits] at h
theorem hitsL_names : ∀ (l : List EV) (n : Nat) (b : Bool), EV.hitsL n b l = true → n ∈ EV.namesL l
 | [], n, b, h => by simp [EV.hitsL] at h
 | x :: l, n, b, h => by
  simp only [EV.hitsL, Bool.or_eq_true] at h
  simp only [EV.namesL, List.mem_append]
  exact h.imp (hits_names x n b) (hitsL_names l n b)
end

mutual
theorem hangs_names : ∀ (e : EV) (t : Nat), e.hangs t = true → t ∈ e.hangN
 | .tup l, t, h => by simp only [EV.hangs] at h; simp only [EV.hangN]; exact hangsL_names l t h
 | .fn _ l, t, h => by simp only [EV.hangs] at h; simp only [EV.hangN]; exact hangsL_names l t h
 | .maybe t' _ _ v, t, h => by
  simp only [EV.hangs, Bool.or_eq_true] at h
  simp only [EV.hangN, List.mem_cons]
  exact h.imp Nat.eq_of_beq_eq_true (hangs_names v t)
 | .dead, t, h => by simp [EV.hangs] at h
 | .val _, t, h => by simp [EV.hangs] at h
 | .cst _, t, h => by simp [EV.hangs] at h
 | .clip _ _, t, h => by simp [EV.hangs] at h
 | .ref _, t, h => by simp [EV.hangs] at h
 | .alias t' _ _, t, h => by
  simp only [EV.hangs] at h
  simp only [EV.hangN, List.mem_singleton]
  exact Nat.eq_of_beq_eq_true h
 | .at_ _ _, t, h => by simp [EV.hangs] at h
 | .loc _ _, t, h => by simp [EV.hangs] at h
 | .oel _ _ _ _ _, t, h => by simp [EV.hangs] at h
theorem hangsL_names : ∀ (l : List EV) (t : Nat), EV.hangsL t l = true → t ∈ EV.hangNL l
 | [], t, h => by simp [EV.hangsL] at h
 | x :: l, t, h => by
  simp only [EV.hangsL, Bool.or_eq_true] at h
  simp only [EV.hangNL, List.mem_append]
  exact h.imp (hangs_names x t) (hangsL_names l t)
end

def f1 (u : Nat × Upd) (e : EV) : EV := match u.2 with
 | .del => bif e.hits u.1 true then .dead else e
 | .new _ => bif e.hits u.1 true then .dead else e
 | .set _ => bif e.hits u.1 false then .dead else e
 | .keep _ => e

def fU : Upds → EV → EV
 | [], e => e
 | u :: r, e => fU r (f1 u e)

def fM : Option Nat → EV → EV
 | none, e => e
 | some d, e => bif e.hangs d then .dead else e

def p1 (u : Nat × Upd) (n : Nat) (x : Option Dyn) : Option Dyn := if n = u.1 then (match u.2 with | .del => none | .new d => some d | .set d => some d | .keep d => some d) else x

def plU : Upds → Nat → Option Dyn → Option Dyn
 | [], _, x => x
 | u :: r, n, x => plU r n (p1 u n x)

theorem lk_kill (n : Nat) (b : Bool) (t : Nat) (env : Env) : lk t (kill n b env) = (lk t env).map fun e => bif e.hits n b then .dead else e := lk_map (fun x : Nat × EV => bif x.2.hits n b then EV.dead else x.2) t env

theorem lk_killM (d t : Nat) (env : Env) : lk t (killM d env) = (lk t env).map fun e => bif e.hangs d then .dead else e := lk_map (fun x : Nat × EV => bif x.2.hangs d then EV.dead else x.2) t env

theorem apply1_lk (u : Nat × Upd) (s : St) (t : Nat) : lk t (apply1 u s).env = (lk t s.env).map (f1 u) := by
 obtain ⟨n, u⟩ := u
 cases u
 ·exact lk_kill n true t s.env
 ·exact lk_kill n true t s.env
 ·exact lk_kill n false t s.env
 ·show lk t s.env = (lk t s.env).map fun e => e
  simp

theorem applyU_lk : ∀ (U : Upds) (s : St) (t : Nat), lk t (applyU U s).env = (lk t s.env).map (fU U)
 | [], s, t => by
  show lk t s.env = (lk t s.env).map fun e => e
  simp
 | u :: r, s, t => by
  simp only [applyU]
  rw [applyU_lk r (apply1 u s) t, apply1_lk, Option.map_map]
  rfl

theorem applyU_plk : ∀ (U : Upds) (s : St) (n : Nat), lk n (applyU U s).pl = plU U n (lk n s.pl)
 | [], s, n => rfl
 | u :: r, s, n => by
  simp only [applyU, plU]
  rw [applyU_plk r (apply1 u s) n, apply1_pl]
  rfl

theorem plU_other : ∀ (U : Upds) (n : Nat) (x : Option Dyn), n ∉ updNames U → plU U n x = x
 | [], n, x, _ => rfl
 | u :: r, n, x, h => by
  simp only [updNames, List.map_cons, List.mem_cons, not_or] at h
  simp only [plU]
  rw [plU_other r n _ h.2]
  unfold p1
  rw [if_neg h.1]

def Kil (f : EV → EV) : Prop := f .dead = .dead ∧ ∀ e, f e = e ∨ f e = .dead

theorem Kil.comp {f g : EV → EV} (hf : Kil f) (hg : Kil g) : Kil (fun e => f (g e)) := by
 refine ⟨by show f (g .dead) = _; rw [hg.1, hf.1], fun e => ?_⟩
 rcases hg.2 e with h | h
 ·show f (g e) = e ∨ f (g e) = .dead
  rw [h]; exact hf.2 e
 ·show f (g e) = e ∨ f (g e) = .dead
  rw [h]; exact .inr hf.1

theorem Kil.comm {f g : EV → EV} (hf : Kil f) (hg : Kil g) (e : EV) : f (g e) = g (f e) := by
 rcases hg.2 e with h | h <;> rcases hf.2 e with h' | h' <;> simp [h, h', hf.1, hg.1]

theorem f1_kil (u : Nat × Upd) : Kil (f1 u) := by
 obtain ⟨n, u⟩ := u
 cases u <;> refine ⟨by simp [f1, EV.hits], fun e => ?_⟩ <;> simp only [f1]
 ·cases e.hits n true <;> simp
 ·cases e.hits n true <;> simp
 ·cases e.hits n false <;> simp
 ·simp

theorem fU_kil : ∀ U : Upds, Kil (fU U)
 | [] => ⟨rfl, fun _ => .inl rfl⟩
 | u :: r => (fU_kil r).comp (f1_kil u)

theorem fM_kil (d : Option Nat) : Kil (fM d) := by
 cases d with
 | none => exact ⟨rfl, fun _ => .inl rfl⟩
 | some d =>
  refine ⟨by simp [fM, EV.hangs], fun e => ?_⟩
  simp only [fM]
  cases e.hangs d <;> simp

def killNames : Upds → List Nat
 | [] => []
 | (_, .keep _) :: r => killNames r
 | (n, _) :: r => n :: killNames r

theorem fU_stays : ∀ (U : Upds) (e : EV), (∀ n ∈ killNames U, n ∉ e.names) → fU U e = e
 | [], e, _ => rfl
 | (n, u) :: r, e, h => by
  have h1 : f1 (n, u) e = e := by
   have hh : ∀ b, n ∉ e.names → (bif e.hits n b then EV.dead else e) = e := fun b hn => by
    cases hb : e.hits n b with
    | false => rfl
    | true => exact absurd (hits_names e n b hb) hn
   cases u
   ·exact hh true (h n (by simp [killNames]))
   ·exact hh true (h n (by simp [killNames]))
   ·exact hh false (h n (by simp [killNames]))
   ·rfl
  simp only [fU]
  rw [h1]
  refine fU_stays r e fun m hm => h m ?_
  cases u <;> simp [killNames, hm]

theorem fM_stays {d : Option Nat} {e : EV} (h : ∀ t, d = some t → t ∉ e.hangN) : fM d e = e := by
 cases d with
 | none => rfl
 | some d =>
  simp only [fM]
  cases hb : e.hangs d with
  | false => rfl
  | true => exact absurd (hangs_names e d hb) (h d rfl)

theorem putO_lk {nt : Nat} {dst : Option Nat} {e : EV} {U : Upds} {s s' : St} (h : putO nt dst e (applyU U s) = some s') :
  (∀ t, lk t s'.env = if dst = some t then some e else (lk t s.env).map fun x => fM dst (fU U x)) ∧ ∀ n, lk n s'.pl = plU U n (lk n s.pl) := by
 cases dst with
 | none =>
  obtain rfl := Option.some.inj h
  refine ⟨fun t => ?_, applyU_plk U s⟩
  rw [if_neg (by simp)]
  exact applyU_lk U s t
 | some d =>
  simp only [putO] at h
  split at h
  ·obtain rfl := Option.some.inj h
   refine ⟨fun t => ?_, applyU_plk U s⟩
   show lk t (put d e (killM d (applyU U s).env)) = _
   rw [lk_put]
   by_cases ht : t = d
   ·rw [if_pos ht, if_pos (by rw [ht])]
   ·rw [if_neg ht, if_neg (by simpa using fun h => ht h.symm), lk_killM, applyU_lk, Option.map_map]
    rfl
  ·cases h

theorem putO_some {nt : Nat} {dst : Option Nat} {e : EV} {s s' : St} (h : putO nt dst e s = some s') (t : St) : ∃ t', putO nt dst e t = some t' := by
 cases dst with
 | none => exact ⟨t, rfl⟩
 | some d =>
  simp only [putO] at h ⊢
  split at h
  ·rename_i hc
   exact ⟨_, by rw [if_pos hc]⟩
  ·cases h

section
variable (P : Program) (Γ : Nat → Option CSem) (ops : Array Oper)

def Prod (o : Oper) (s : St) (e : EV) (U : Upds) : Prop :=
 (o.guard = none ∧ ∃ (r : ORes) (x : r.α), opE P Γ (look s) s.env [] (o.dst.getD 0) o.op o.type = some r ∧ r.run = some x ∧ e = (r.out x).ev ∧ U = (r.out x).upd) ∨
 (∃ (j : Nat) (want : Bool) (t : Nat) (g : Bool × Bool) (r : ORes) (x : r.α), o.guard = some (j, want) ∧ guardE ops s j = some (t, g) ∧ opE P Γ (look s) s.env [(t, want)] (o.dst.getD 0) o.op o.type = some r ∧
  (gcond want g = true → r.run = some x) ∧ mergeU (gcond want g) (look s) (r.out x).upd = some U ∧ e = .maybe t want (gcond want g) (r.out x).ev) ∨
 (∃ (j : Nat) (want : Bool), o.guard = some (j, want) ∧ ((∃ (t : Nat) (g : Bool × Bool) (r : ORes) (x : r.α), guardE ops s j = some (t, g) ∧ opE P Γ (look s) s.env [(t, want)] (o.dst.getD 0) o.op o.type = some r ∧ gcond want g = true ∧ r.run = some x ∧
   e = .maybe t want true (r.out x).ev ∧ U = (r.out x).upd) ∨
  (((∃ (t : Nat) (g : Bool × Bool), guardE ops s j = some (t, g) ∧ gcond want g = false) ∨ unrun ops s j = true) ∧ e = .none_ ∧ U = [])))

def one {α : Type} (o : Oper) (s : St) (κ : EV → Upds → Option α) : Option α := match o.guard with
 | none => (opE P Γ (fun n => lk n s.pl) s.env [] (o.dst.getD 0) o.op o.type).bind fun e => e.run.bind fun x => e.spl.split (fun x => κ (e.out x).ev (e.out x).upd) x
 | some (j, want) => bif unrun ops s j then κ .none_ [] else (guardE ops s j).bind fun tg => match opE P Γ (fun n => lk n s.pl) s.env [(tg.1, want)] (o.dst.getD 0) o.op o.type with
  | none => bif gcond want tg.2 then none else κ .none_ []
  | some e => guardR (gcond want tg.2) e.run e.dflt fun x => e.spl.split (fun x => match mergeU (gcond want tg.2) (fun n => lk n s.pl) (e.out x).upd with
   | some u => κ (.maybe tg.1 want (gcond want tg.2) (e.out x).ev) u
   | none => bif gcond want tg.2 then κ (.maybe tg.1 want true (e.out x).ev) (e.out x).upd else κ .none_ []) x
end

section
variable {P : Program} {Γ : Nat → Option CSem} {ops : Array Oper}

theorem one_prod {α : Type} {o : Oper} {s : St} {κ : EV → Upds → Option α} {r : α} (h : one P Γ ops o s κ = some r) : ∃ e U, Prod P Γ ops o s e U ∧ κ e U = some r := by
 unfold one at h
 cases hg : o.guard with
 | none =>
  rw [hg] at h
  obtain ⟨e, h1, h⟩ := bind_some h
  obtain ⟨x, h2, h⟩ := bind_some h
  rw [e.spl.law] at h
  exact ⟨_, _, .inl ⟨hg, e, x, h1, h2, rfl, rfl⟩, h⟩
 | some jw =>
  obtain ⟨j, want⟩ := jw
  rw [hg] at h
  simp only at h
  cases hun : unrun ops s j with
  | true =>
   rw [hun, cond_true] at h
   exact ⟨_, _, .inr (.inr ⟨j, want, hg, .inr ⟨.inr hun, rfl, rfl⟩⟩), h⟩
  | false =>
  rw [hun, cond_false] at h
  obtain ⟨⟨t, g⟩, h0, h⟩ := bind_some h
  simp only at h
  cases h1 : opE P Γ (fun n => lk n s.pl) s.env [(t, want)] (o.dst.getD 0) o.op o.type with
  | none =>
   rw [h1] at h
   simp only at h
   cases hb : gcond want g with
   | true => rw [hb] at h; cases h
   | false =>
    rw [hb, cond_false] at h
    exact ⟨_, _, .inr (.inr ⟨j, want, hg, .inr ⟨.inl ⟨t, g, h0, hb⟩, rfl, rfl⟩⟩), h⟩
  | some e =>
  rw [h1] at h
  simp only at h
  obtain ⟨x, h2, h⟩ := guardR_some h
  rw [e.spl.law] at h
  cases h3 : mergeU (gcond want g) (fun n => lk n s.pl) (e.out x).upd with
  | some u =>
   rw [h3] at h
   exact ⟨_, _, .inr (.inl ⟨j, want, t, g, e, x, hg, h0, h1, h2, h3, rfl⟩), h⟩
  | none =>
   rw [h3] at h
   simp only at h
   cases hb : gcond want g with
   | true =>
    rw [hb, cond_true] at h
    exact ⟨_, _, .inr (.inr ⟨j, want, hg, .inl ⟨t, g, e, x, h0, h1, hb, h2 hb, rfl, rfl⟩⟩), h⟩
   | false =>
    rw [hb, cond_false] at h
    exact ⟨_, _, .inr (.inr ⟨j, want, hg, .inr ⟨.inl ⟨t, g, h0, hb⟩, rfl, rfl⟩⟩), h⟩

theorem prod_wp {X : Cx} {st st' : St} {a : Act} {w : World} {B : Nat → Prop} {G : Nat → PG} {Q : Exit → Act → World → Prop} (h : Inv X st a w B G) (hΓ : ∀ f sem, Γ f = some sem → ContractD X.dr X.P f sem) {o : Oper} {e : EV} {U : Upds} (hp : Prod X.P Γ ops o st e U)
  (hput : putO X.nt o.dst e (applyU U st) = some st') {K : Act → World → Prop} (hK : ∀ a' w' B' G', Inv X st' a' w' B' G' → K a' w') :
  if Region.wanted o (yielded ops a.tmps) then o.wp X.P a w K Q ∨ (o.asks X.P a w ∧ LetsOut Q) else K (a.put o.dst undef) w := by
 rcases hp with ⟨hgd, r, x, h1, h2, rfl, rfl⟩ | ⟨j, want, t, g, r, x, hgd, hg, h1, h2, h3, rfl⟩ | ⟨j, want, hgd, ⟨t, g, r, x, hg, h1, hb, h2, rfl, rfl⟩ | ⟨hno, rfl, rfl⟩⟩
 ·have hw : Region.wanted o (yielded ops a.tmps) = true := by simp [Region.wanted, hgd]
  rw [if_pos hw]
  left
  exact opE_ok h hΓ (by simp) h1 h2 _ _ fun v w' B' G' hI hv => hK _ w' B' G' (putO_ok hI hv hput)
 ·obtain ⟨hd, ht⟩ := guardE_ok h hg
  obtain ⟨hwant, hgt, hgf⟩ := gcond_ok (a := a) hgd hd ht
  cases hb : gcond want g with
  | true =>
   rw [hb] at h3 hput
   have h2 := h2 hb
   have hu := mergeU_true _ _ _ h3
   subst hu
   rw [hwant, hb, if_pos rfl]
   left
   exact opE_ok h hΓ (fun q hq => by obtain rfl := List.mem_singleton.1 hq; exact hgt hb) h1 h2 _ _ fun v w' B' G' hI hv => hK _ w' B' G' (putO_ok hI (by simp only [EVR]; exact ⟨fun _ => hv, fun h => Bool.noConfusion h⟩) hput)
  | false =>
   rw [hb] at h3 hput
   rw [hwant, hb, if_neg (by simp)]
   have hI := h.idle (mergeU_false _ _ _ h3)
   refine hK _ w B G (putO_ok hI ?_ hput)
   simp only [EVR]
   exact ⟨fun h => Bool.noConfusion h, fun _ => ⟨hgf hb, by first | rfl | trivial⟩⟩
 ·obtain ⟨hd, ht⟩ := guardE_ok h hg
  obtain ⟨hwant, hgt, hgf⟩ := gcond_ok (a := a) hgd hd ht
  rw [hwant, hb, if_pos rfl]
  left
  exact opE_ok h hΓ (fun q hq => by obtain rfl := List.mem_singleton.1 hq; exact hgt hb) h1 h2 _ _ fun v w' B' G' hI hv => hK _ w' B' G' (putO_ok hI (by simp only [EVR]; exact ⟨fun _ => hv, fun h => Bool.noConfusion h⟩) hput)
 ·have hw : Region.wanted o (yielded ops a.tmps) = false := by
   rcases hno with ⟨t, g, hg, hb⟩ | hun
   ·obtain ⟨hd, ht⟩ := guardE_ok h hg
    rw [(gcond_ok (a := a) hgd hd ht).1, hb]
   ·obtain ⟨t, hd, ht⟩ := unrun_ok h hun
    rw [(gcond_ok (a := a) (g := (false, false)) hgd hd (.inr ⟨rfl, ht⟩)).1]; rfl
  rw [hw, if_neg (by simp)]
  exact hK _ w B G (putO_ok h (by simp only [EVR]) hput)

end
end
end Go.Pv

namespace Go.Pv
noncomputable section

def slotEVs (env : Env) : List Nat → List EV
 | [] => []
 | t :: r => match lk t env with
  | some e => e :: slotEVs env r
  | none => slotEVs env r

def EV.live : EV → Bool
 | .dead => false
 | _ => true

def keepOf (o : Oper) (env : Env) : List Nat := match o.guard, o.op with
 | none, .store _ (.tmp t) _ => match lk t env with
  | some (.oel n [] _ _ _) => [n]
  | _ => []
 | _, _ => []

def lenAt (o : Oper) (env : Env) : List Nat := match o.guard, o.op with
 | none, .call c => match c.callee, c.args.toList with
  | .builtin .len, [.tmp t] => match lk t env with
   | some (.at_ n []) => [n]
   | _ => []
  | _, _ => []
 | _, _ => []

structure Foot where
 dst : Option Nat
 slots : List Nat
 look : List Nat
 hit : List Nat
 hang : List Nat
 hangO : List Nat
 kills : List Nat
 chg : List Nat
 out : List Nat
 keepL : List Nat
 lenL : List Nat

def footOf (ops : Array Oper) (o : Oper) (env : Env) (e : EV) (U : Upds) : Foot :=
 let sl := o.looksAt ops
 let evs := slotEVs env sl
 let hit := evs.flatMap EV.names
 ⟨o.dst, sl, bif lookFree o.op && o.guard.isNone then [] else hit, hit, evs.flatMap EV.hangN, e.hangN, killNames U, updNames U, e.names, keepOf o env, lenAt o env⟩

def memN (n : Nat) (l : List Nat) : Bool := l.any fun m => Nat.beq n m
def disjN (a b : List Nat) : Bool := a.all fun n => !memN n b
def notIn (d : Option Nat) (l : List Nat) : Bool := match d with
 | none => true
 | some d => !memN d l

def disjX (chg look keep len : List Nat) : Bool := chg.all fun n => !memN n look || (memN n keep && memN n len)

def apartF (f g : Foot) : Bool :=
 notIn f.dst g.slots && (notIn g.dst f.slots && (notIn f.dst g.dst.toList && (disjX f.chg g.look f.keepL g.lenL && (disjN f.chg g.chg && (disjX g.chg f.look g.keepL f.lenL && (disjN g.kills f.hit && (disjN g.kills f.out && (disjN f.kills g.out && (notIn g.dst f.hang && (notIn g.dst f.hangO && notIn f.dst g.hangO))))))))))

theorem memN_iff {n : Nat} {l : List Nat} : memN n l = true ↔ n ∈ l := by
 unfold memN
 rw [List.any_eq_true]
 exact ⟨fun ⟨m, hm, h⟩ => by rw [Nat.eq_of_beq_eq_true h]; exact hm, fun h => ⟨n, h, Nat.beq_refl n⟩⟩

theorem memN_not {n : Nat} {l : List Nat} (h : (!memN n l) = true) : n ∉ l := fun hm => by
 rw [memN_iff.2 hm] at h; cases h

theorem disjN_spec {a b : List Nat} (h : disjN a b = true) : ∀ n ∈ a, n ∉ b := fun n hn => memN_not (List.all_eq_true.1 h n hn)

theorem disjX_spec {a b k l : List Nat} (h : disjX a b k l = true) : ∀ n ∈ a, n ∉ b ∨ (n ∈ k ∧ n ∈ l) := fun n hn => by
 have := List.all_eq_true.1 h n hn
 rw [Bool.or_eq_true, Bool.and_eq_true] at this
 exact this.imp memN_not fun h => ⟨memN_iff.1 h.1, memN_iff.1 h.2⟩

theorem notIn_spec {d : Option Nat} {l : List Nat} (h : notIn d l = true) : ∀ t, d = some t → t ∉ l := fun t ht => by
 subst ht
 exact memN_not h

theorem apartF_spec {f g : Foot} (h : apartF f g = true) : (∀ t, f.dst = some t → t ∉ g.slots) ∧ (∀ t, g.dst = some t → t ∉ f.slots) ∧ (∀ t, f.dst = some t → g.dst ≠ some t) ∧ (∀ n ∈ f.chg, n ∉ g.look ∨ (n ∈ f.keepL ∧ n ∈ g.lenL)) ∧ (∀ n ∈ f.chg, n ∉ g.chg) ∧ (∀ n ∈ g.chg, n ∉ f.look ∨ (n ∈ g.keepL ∧ n ∈ f.lenL)) ∧
  (∀ n ∈ g.kills, n ∉ f.hit) ∧ (∀ n ∈ g.kills, n ∉ f.out) ∧ (∀ n ∈ f.kills, n ∉ g.out) ∧ (∀ t, g.dst = some t → t ∉ f.hang) ∧ (∀ t, g.dst = some t → t ∉ f.hangO) ∧ (∀ t, f.dst = some t → t ∉ g.hangO) := by
 unfold apartF at h
 simp only [Bool.and_eq_true] at h
 obtain ⟨h1, h2, h3, h4, h5, h6, h7, h8, h9, h10, h11, h12⟩ := h
 exact ⟨notIn_spec h1, notIn_spec h2, fun t ht hg => notIn_spec h3 t ht (by rw [hg]; simp), disjX_spec h4, disjN_spec h5, disjX_spec h6, disjN_spec h7, disjN_spec h8, disjN_spec h9, notIn_spec h10, notIn_spec h11, notIn_spec h12⟩

theorem slotEVs_mem : ∀ {l : List Nat} {env : Env} {t : Nat} {e : EV}, t ∈ l → lk t env = some e → e ∈ slotEVs env l
 | s :: l, env, t, e, ht, he => by
  simp only [slotEVs]
  rcases List.mem_cons.1 ht with rfl | ht
  ·rw [he]; simp
  ·cases lk s env with
   | none => exact slotEVs_mem ht he
   | some x => exact List.mem_cons_of_mem _ (slotEVs_mem ht he)

theorem slotEVs_cong : ∀ {l : List Nat} {env env' : Env}, (∀ t ∈ l, lk t env' = lk t env) → slotEVs env' l = slotEVs env l
 | [], _, _, _ => rfl
 | s :: l, env, env', h => by
  simp only [slotEVs]
  rw [h s (by simp), slotEVs_cong fun t ht => h t (by simp [ht])]

theorem tmp_looks' {ops : Array Oper} {o : Oper} {t : Nat} (h : Operand.tmp t ∈ o.op.operands) : t ∈ o.looksAt ops :=
 List.mem_append_left _ (List.mem_filterMap.2 ⟨.tmp t, by simpa using h, rfl⟩)

theorem arg_in {c : Call} {x : Operand} (h : x ∈ c.args.toList) : x ∈ (Op.call c).operands := by
 simp only [Op.operands, Call.operands, Array.mem_append]
 exact .inr (by simpa using h)

theorem keepOf_cong {ops : Array Oper} {o : Oper} {env env' : Env} (h : ∀ t ∈ o.looksAt ops, lk t env' = lk t env) : keepOf o env' = keepOf o env := by
 unfold keepOf
 split
 ·rename_i t x hg ho
  rw [h t (tmp_looks' (by rw [ho]; simp [Op.operands]))]
 ·rfl

theorem lenAt_cong {ops : Array Oper} {o : Oper} {env env' : Env} (h : ∀ t ∈ o.looksAt ops, lk t env' = lk t env) : lenAt o env' = lenAt o env := by
 unfold lenAt
 split
 ·rename_i c hg ho
  split
  ·rename_i t hc ha
   rw [h t (tmp_looks' (by rw [ho]; exact arg_in (by rw [ha]; simp)))]
  ·rfl
 ·rfl

theorem footOf_cong {ops : Array Oper} {o : Oper} {env env' : Env} {e : EV} {U : Upds} (h : ∀ t ∈ o.looksAt ops, lk t env' = lk t env) : footOf ops o env' e U = footOf ops o env e U := by
 unfold footOf
 dsimp only
 rw [slotEVs_cong h, keepOf_cong h, lenAt_cong h]

section
variable {P : Program} {Γ : Nat → Option CSem} {ops : Array Oper}

theorem Eop_cong {env env' : Env} {g : List (Nat × Bool)} {x : Operand} (h : ∀ t, x = .tmp t → lk t env' = lk t env) : Eop env' g x = Eop env g x := by
 cases x with
 | tmp t => simp only [Eop]; rw [h t rfl]
 | _ => rfl

theorem Eop_ag {L L' : Look} {env : Env} {g : List (Nat × Bool)} {x : Operand} (h : ∀ t e, x = .tmp t → lk t env = some e → Ag L L' e) {v : EV} (hv : Eop env g x = some v) : Ag L L' v := by
 cases x with
 | tmp t =>
  simp only [Eop] at hv
  obtain ⟨e, he, rfl⟩ := Option.map_eq_some_iff.1 hv
  have := h t e rfl he
  cases e with
  | maybe t' w c u =>
   have hu : Ag L L' u := fun n hn => this n (by simpa only [EV.hits] using hn)
   simp only [unw]
   cases hb : g.any (fun q => Nat.beq q.1 t' && (q.2 == w)) with
   | true => exact hu
   | false => exact this
  | _ => exact this
 | const c =>
  simp only [Eop, Option.some.injEq] at hv; subst hv
  intro n hn; simp [EV.hits] at hn
 | func f =>
  simp only [Eop, Option.some.injEq] at hv; subst hv
  intro n hn; simp [EV.hits, EV.hitsL] at hn
 | global _ => cases hv

theorem opE_env {L : Look} {env env' : Env} {g : List (Nat × Bool)} {dst : Nat} {op : Op} {ty : TypeId} (h : ∀ t, Operand.tmp t ∈ op.operands → lk t env' = lk t env) : opE P Γ L env' g dst op ty = opE P Γ L env g dst op ty := by
 have hE : ∀ g, ∀ x ∈ op.operands, Eop env' g x = Eop env g x := fun g x hx => Eop_cong fun t ht => h t (ht ▸ hx)
 unfold opE
 split
 ·rename_i t a b
  unfold pickOp
  rw [hE g (.tmp t) (by simp [Op.operands]), hE ((t, true) :: g) a (by simp [Op.operands]), hE ((t, false) :: g) b (by simp [Op.operands])]
 ·exact evalOp_E (hE g)

theorem opE_look {L L' : Look} {env : Env} {g : List (Nat × Bool)} {dst : Nat} {op : Op} {ty : TypeId} (h : lookFree op = true ∨ ∀ t e, Operand.tmp t ∈ op.operands → lk t env = some e → Ag L L' e) : opE P Γ L env g dst op ty = opE P Γ L' env g dst op ty := by
 rcases h with h | h
 ·unfold opE
  split
  ·simp [lookFree] at h
  ·exact evalOp_free h
 ·have hE : ∀ g, ∀ x ∈ op.operands, ∀ v, Eop env g x = some v → Ag L L' v := fun g x hx v hv => Eop_ag (fun t e ht he => h t e (ht ▸ hx) he) hv
  unfold opE
  split
  ·rename_i t a b
   exact pickOp_ag (hE g (.tmp t) (by simp [Op.operands])) (hE ((t, true) :: g) a (by simp [Op.operands])) (hE ((t, false) :: g) b (by simp [Op.operands]))
  ·exact evalOp_ag (hE g)

theorem gval_ag {L L' : Look} {e : EV} (h : Ag L L' e) : gval L e = gval L' e := by
 unfold gval
 split
 ·rename_i t w c u
  have hu : Ag L L' u := fun n hn => h n (by simpa only [EV.hits] using hn)
  unfold boolOf
  rw [hu.rd]
 ·unfold boolOf
  rw [h.rd]

theorem mergeU_cong {b : Bool} {L L' : Look} : ∀ {U : Upds}, (∀ n ∈ updNames U, L' n = L n) → mergeU b L' U = mergeU b L U
 | [], _ => rfl
 | (n, .set d) :: r, h => by
  have h1 : L' n = L n := h n (by simp [updNames])
  have h2 := mergeU_cong (b := b) (L := L) (L' := L') (U := r) fun m hm => h m (by simp only [updNames] at hm ⊢; simp [hm])
  simp only [mergeU]
  rw [h1, h2]
 | (n, .keep d) :: r, h => by
  have h1 : L' n = L n := h n (by simp [updNames])
  have h2 := mergeU_cong (b := b) (L := L) (L' := L') (U := r) fun m hm => h m (by simp only [updNames] at hm ⊢; simp [hm])
  simp only [mergeU]
  rw [h1, h2]
 | (n, .del) :: r, _ => rfl
 | (n, .new _) :: r, _ => rfl

theorem mergeU_names {b : Bool} {L : Look} : ∀ {U u : Upds}, mergeU b L U = some u → updNames u = updNames U
 | [], u, h => by simp only [mergeU, Option.some.injEq] at h; subst h; rfl
 | (n, .set d) :: r, u, h => by
  simp only [mergeU] at h
  obtain ⟨o, _, h⟩ := bind_some h
  split at h
  ·obtain ⟨z, hz, rfl⟩ := Option.map_eq_some_iff.1 h
   simp only [updNames, List.map_cons]
   congr 1
   exact mergeU_names hz
  ·cases h
 | (n, .keep d) :: r, u, h => by
  simp only [mergeU] at h
  obtain ⟨o, _, h⟩ := bind_some h
  split at h
  ·obtain ⟨z, hz, rfl⟩ := Option.map_eq_some_iff.1 h
   simp only [updNames, List.map_cons]
   congr 1
   exact mergeU_names hz
  ·cases h
 | (n, .del) :: r, u, h => by cases h
 | (n, .new _) :: r, u, h => by cases h

theorem tmp_looks {o : Oper} {t : Nat} (h : Operand.tmp t ∈ o.op.operands) : t ∈ o.looksAt ops :=
 List.mem_append_left _ (List.mem_filterMap.2 ⟨.tmp t, by simpa using h, rfl⟩)

theorem Prod_local {o : Oper} {s s' : St} {e : EV} {U : Upds} (h : Prod P Γ ops o s e U) (hs : ∀ t ∈ o.looksAt ops, lk t s'.env = lk t s.env) (hl : ∀ n ∈ (footOf ops o s.env e U).look, lk n s'.pl = lk n s.pl) (hc : ∀ n ∈ (footOf ops o s.env e U).chg, lk n s'.pl = lk n s.pl) : Prod P Γ ops o s' e U := by
 have hag : (lookFree o.op && o.guard.isNone) = false → ∀ t e', t ∈ o.looksAt ops → lk t s.env = some e' → Ag (look s) (look s') e' := fun hf t e' ht he' n hn => by
  refine (hl n ?_).symm
  simp only [footOf, hf, cond_false, List.mem_flatMap]
  exact ⟨e', slotEVs_mem ht he', hits_names e' n true hn⟩
 have hop : ∀ g, opE P Γ (look s') s'.env g (o.dst.getD 0) o.op o.type = opE P Γ (look s) s.env g (o.dst.getD 0) o.op o.type := fun g => by
  rw [opE_env (env := s.env) (env' := s'.env) fun t ht => hs t (tmp_looks ht)]
  refine (opE_look ?_).symm
  cases hf : lookFree o.op with
  | true => exact .inl rfl
  | false => exact .inr fun t e' ht he' => hag (by rw [hf]; rfl) t e' (tmp_looks ht) he'
 have hgE : ∀ (j : Nat) (want : Bool), o.guard = some (j, want) → guardE ops s' j = guardE ops s j := by
  ·intro j want hgd
   unfold guardE
   cases hj : ops[j]? with
   | none => rfl
   | some oj =>
    simp only [Option.bind_some]
    cases hd : oj.dst with
    | none => rfl
    | some d =>
     simp only [Option.bind_some]
     have hdl : d ∈ o.looksAt ops := List.mem_append_right _ (by rw [hgd]; simp [hj, hd])
     rw [hs d hdl]
     cases hv : lk d s.env with
     | none => rfl
     | some v =>
      simp only [Option.bind_some]
      have := hag (by rw [hgd]; simp) d v hdl hv
      rw [gval_ag this]
 have hun : ∀ (j : Nat) (want : Bool), o.guard = some (j, want) → unrun ops s' j = unrun ops s j := by
  intro j want hgd
  unfold unrun
  cases hj : ops[j]? with
  | none => rfl
  | some oj =>
   simp only [Option.bind_some]
   cases hd : oj.dst with
   | none => rfl
   | some d =>
    simp only [Option.bind_some]
    rw [hs d (List.mem_append_right _ (by rw [hgd]; simp [hj, hd]))]
 rcases h with ⟨hgd, r, x, h1, h2, h3, h4⟩ | ⟨j, want, t, g, r, x, hgd, hg, h1, h2, h3, h4⟩ | ⟨j, want, hgd, ⟨t, g, r, x, hg, h1, hb, h2, h3, h4⟩ | ⟨hno, h3, h4⟩⟩
 ·exact .inl ⟨hgd, r, x, by rw [hop]; exact h1, h2, h3, h4⟩
 rotate_left
 ·exact .inr (.inr ⟨j, want, hgd, .inl ⟨t, g, r, x, by rw [hgE j want hgd]; exact hg, by rw [hop]; exact h1, hb, h2, h3, h4⟩⟩)
 ·refine .inr (.inr ⟨j, want, hgd, .inr ⟨?_, h3, h4⟩⟩)
  rcases hno with ⟨t, g, hg, hb⟩ | hu
  ·exact .inl ⟨t, g, by rw [hgE j want hgd]; exact hg, hb⟩
  ·exact .inr (by rw [hun j want hgd]; exact hu)
 ·refine .inr (.inl ⟨j, want, t, g, r, x, hgd, by rw [hgE j want hgd]; exact hg, by rw [hop]; exact h1, h2, ?_, h4⟩)
  ·rw [← h3]
   have hn := mergeU_names h3
   exact mergeU_cong fun n hn' => hc n (by simp only [footOf]; rw [hn]; exact hn')

def LenEq (x y : Option Dyn) : Prop := ∃ (e : Ty) (xs ys : List (T e)), x = some ⟨.own e, xs⟩ ∧ y = some ⟨.own e, ys⟩ ∧ xs.length = ys.length

theorem LenEq.symm {x y : Option Dyn} : LenEq x y → LenEq y x := fun ⟨e, xs, ys, h1, h2, h3⟩ => ⟨e, ys, xs, h2, h1, h3.symm⟩

theorem stI_len {α : Type} {xs ys : List α} {i : Int} {v : α} (h : stI xs i v = some ys) : ys.length = xs.length := by
 unfold stI at h
 split at h
 ·obtain rfl := Option.some.inj h; simp
 ·cases h

theorem plU_last (U : Upds) (n : Nat) (d : Dyn) (x : Option Dyn) : plU (U ++ [(n, .keep d)]) n x = some d := by
 induction U generalizing x with
 | nil => simp [plU, p1]
 | cons u U ih => exact ih _

theorem keep_len {o : Oper} {s : St} {e : EV} {U : Upds} (h : Prod P Γ ops o s e U) {n : Nat} (hn : n ∈ keepOf o s.env) : LenEq (lk n s.pl) (plU U n (lk n s.pl)) := by
 unfold keepOf at hn
 split at hn
 ·rename_i ty t x hg ho
  split at hn
  ·rename_i m e0 i q hlk
   obtain rfl := List.mem_singleton.1 hn
   rcases h with ⟨_, r, z, h1, h2, rfl, rfl⟩ | ⟨j, want, t', g, r, z, hgd, _⟩ | ⟨j, want, hgd, _⟩
   ·rw [ho] at h1
    simp only [opE, evalOp, Eop, hlk, Option.map_some, unw, Option.bind_some] at h1
    obtain ⟨x1, _, h1⟩ := bind_some h1
    obtain ⟨x2, _, h1⟩ := bind_some h1
    obtain ⟨y, _, h1⟩ := bind_some h1
    split at h1
    ·obtain ⟨d, hd, h1⟩ := bind_some h1
     obtain ⟨y2, hy2, h1⟩ := bind_some h1
     simp only [getP, Option.some.injEq] at hy2
     subst hy2
     split at h1
     ·rename_i et xs heq
      split at h1
      ·obtain ⟨old, _, h1⟩ := bind_some h1
       split at h1
       ·obtain ⟨w, _, h1⟩ := bind_some h1
        split at h1
        ·rename_i hw
         simp only [setP, Option.map_some, Option.some.injEq] at h1
         subst h1
         obtain ⟨v, hv, hz⟩ := bind_some (show (_ : Option _) = some z from h2)
         obtain ⟨dt, dv⟩ := d
         simp only [ODyn.mk.injEq] at heq
         obtain ⟨rfl, heq⟩ := heq
         obtain rfl := Option.some.inj (eq_of_heq heq)
         refine ⟨et, _, z, hd, ?_, (stI_len hz).symm⟩
         exact plU_last _ _ _ _
        ·cases h1
       ·cases h1
      ·cases h1
     ·cases h1
    ·cases h1
   ·rw [hg] at hgd; cases hgd
   ·rw [hg] at hgd; cases hgd
  ·cases hn
 ·cases hn

theorem Prod_len {o : Oper} {s s' : St} {e : EV} {U : Upds} (h : Prod P Γ ops o s e U) {n : Nat} (hn : n ∈ lenAt o s.env) (hs : ∀ t ∈ o.looksAt ops, lk t s'.env = lk t s.env) (hl : LenEq (lk n s.pl) (lk n s'.pl)) : Prod P Γ ops o s' e U := by
 unfold lenAt at hn
 split at hn
 ·rename_i c hg ho
  split at hn
  ·rename_i t hc ha
   split at hn
   ·rename_i m hlk
    obtain rfl := List.mem_singleton.1 hn
    have hlk' : lk t s'.env = some (.at_ n []) := by rw [hs t (tmp_looks (by rw [ho]; exact arg_in (by rw [ha]; simp))), hlk]
    obtain ⟨et, xs, ys, e1, e2, e3⟩ := hl
    rcases h with ⟨_, r, z, h1, h2, h3, h4⟩ | ⟨j, want, t', g, r, z, hgd, _⟩ | ⟨j, want, hgd, _⟩
    ·refine .inl ⟨hg, r, z, ?_, h2, h3, h4⟩
     rw [← h1, ho]
     have e1' : look s n = some ⟨.own et, xs⟩ := e1
     have e2' : look s' n = some ⟨.own et, ys⟩ := e2
     have hr : (EV.at_ n []).rd (look s) = some ⟨.own et, some xs⟩ := by simp only [EV.rd, e1', Option.bind_some, getP]
     have hr' : (EV.at_ n []).rd (look s') = some ⟨.own et, some ys⟩ := by simp only [EV.rd, e2', Option.bind_some, getP]
     have hx : ∀ ty : TypeId, (EV.at_ n []).fix P ty = some (.at_ n []) := fun _ => rfl
     simp only [opE, evalOp, hc, ha]
     split
     ·rename_i x1 t1 l1 l2 _
      simp only [List.cons.injEq] at l2
      obtain ⟨rfl, _⟩ := l2
      simp only [Eop, hlk, hlk', Option.map_some, unw, Option.bind_some, hx, hr, hr', lenOf, e3]
     ·rfl
    ·rw [hg] at hgd; cases hgd
    ·rw [hg] at hgd; cases hgd
   ·cases hn
  ·cases hn
 ·cases hn

def Like (s t : St) : Prop := (∀ n, lk n t.env = lk n s.env) ∧ ∀ n, lk n t.pl = lk n s.pl

theorem Like.rfl' (s : St) : Like s s := ⟨fun _ => rfl, fun _ => rfl⟩
theorem Like.trans {s t u : St} (h : Like s t) (h' : Like t u) : Like s u := ⟨fun n => (h'.1 n).trans (h.1 n), fun n => (h'.2 n).trans (h.2 n)⟩

structure Item where
 idx : Nat
 o : Oper
 e : EV
 U : Upds
 f : Foot

structure Does1 (P : Program) (Γ : Nat → Option CSem) (ops : Array Oper) (nt : Nat) (it : Item) (s s' : St) : Prop where
 prod : Prod P Γ ops it.o s it.e it.U
 put : putO nt it.o.dst it.e (applyU it.U s) = some s'
 live : ∀ t ∈ it.o.looksAt ops, lk t s.env ≠ some .dead
 foot : footOf ops it.o s.env it.e it.U = it.f

variable {nt : Nat}

theorem Does1.like {it : Item} {s s' t : St} (h : Does1 P Γ ops nt it s s') (hl : Like s t) : ∃ t', Does1 P Γ ops nt it t t' ∧ Like s' t' := by
 obtain ⟨t', ht'⟩ := putO_some h.put (applyU it.U t)
 refine ⟨t', ⟨Prod_local h.prod (fun n _ => hl.1 n) (fun n _ => hl.2 n) (fun n _ => hl.2 n), ht', fun n hn => by rw [hl.1]; exact h.live n hn, ?_⟩, ?_⟩
 ·rw [← h.foot]
  exact footOf_cong fun n _ => hl.1 n
 ·obtain ⟨h1, h2⟩ := putO_lk h.put
  obtain ⟨g1, g2⟩ := putO_lk ht'
  exact ⟨fun n => by rw [h1, g1, hl.1], fun n => by rw [h2, g2, hl.2]⟩

theorem swap {x j : Item} {s s1 s2 : St} (hx : Does1 P Γ ops nt x s s1) (hj : Does1 P Γ ops nt j s1 s2) (hap : apartF x.f j.f = true) :
  ∃ s1' s2', Does1 P Γ ops nt j s s1' ∧ Does1 P Γ ops nt x s1' s2' ∧ Like s2 s2' := by
 obtain ⟨a1, a2, a3, a4, a5, a6, a7, a8, a9, a10, a11, a12⟩ := apartF_spec hap
 have fx := hx.foot
 have fj := hj.foot
 have dx : x.f.dst = x.o.dst := by rw [← fx]; rfl
 have dj : j.f.dst = j.o.dst := by rw [← fj]; rfl
 have sx : x.f.slots = x.o.looksAt ops := by rw [← fx]; rfl
 have sj : j.f.slots = j.o.looksAt ops := by rw [← fj]; rfl
 have cx : x.f.chg = updNames x.U := by rw [← fx]; rfl
 have cj : j.f.chg = updNames j.U := by rw [← fj]; rfl
 have kx : x.f.kills = killNames x.U := by rw [← fx]; rfl
 have kj : j.f.kills = killNames j.U := by rw [← fj]; rfl
 have ox : x.f.out = x.e.names := by rw [← fx]; rfl
 have oj : j.f.out = j.e.names := by rw [← fj]; rfl
 have gx : x.f.hangO = x.e.hangN := by rw [← fx]; rfl
 have gj : j.f.hangO = j.e.hangN := by rw [← fj]; rfl
 obtain ⟨e1, p1⟩ := putO_lk hx.put

 have hsj : ∀ t ∈ j.o.looksAt ops, lk t s.env = lk t s1.env := by
  intro t ht
  have hne : x.o.dst ≠ some t := fun h => a1 t (by rw [dx]; exact h) (by rw [sj]; exact ht)
  have := e1 t
  rw [if_neg hne] at this
  rw [this]
  have hl := hj.live t ht
  cases hv : lk t s.env with
  | none => rfl
  | some v =>
   rw [this, hv] at hl
   rcases ((fM_kil x.o.dst).comp (fU_kil x.U)).2 v with h | h
   ·simp only at h
    simp only [Option.map_some]
    rw [h]
   ·simp only at h
    simp only [Option.map_some] at hl
    rw [h] at hl
    exact absurd rfl hl
 have hfj : footOf ops j.o s.env j.e j.U = j.f := by rw [← fj]; exact footOf_cong hsj
 have hpj : ∀ n, n ∉ updNames x.U → lk n s.pl = lk n s1.pl := fun n hn => by rw [p1, plU_other _ _ _ hn]
 have prodj : Prod P Γ ops j.o s j.e j.U := by
  by_cases hlen : ∃ n, n ∈ updNames x.U ∧ n ∈ x.f.keepL ∧ n ∈ j.f.lenL
  ·obtain ⟨n, hn, hk, hl⟩ := hlen
   have hk' : n ∈ keepOf x.o s.env := by rw [← fx] at hk; exact hk
   have hl' : n ∈ lenAt j.o s1.env := by rw [← fj] at hl; exact hl
   have := keep_len hx.prod hk'
   rw [← p1] at this
   exact Prod_len hj.prod hl' hsj this.symm
  ·exact Prod_local hj.prod hsj (fun n hn => hpj n fun hc => (a4 n (by rw [cx]; exact hc)).elim (fun h => h (by rw [← fj]; exact hn)) fun h => hlen ⟨n, hc, h⟩) (fun n hn => hpj n fun hc => a5 n (by rw [cx]; exact hc) (by rw [← fj]; exact hn))
 obtain ⟨s1', hput1⟩ := putO_some hj.put (applyU j.U s)
 have hDj : Does1 P Γ ops nt j s s1' := ⟨prodj, hput1, fun t ht => by rw [hsj t ht]; exact hj.live t ht, hfj⟩
 obtain ⟨e1', p1'⟩ := putO_lk hput1

 have hsx : ∀ t ∈ x.o.looksAt ops, lk t s1'.env = lk t s.env := by
  intro t ht
  have hne : j.o.dst ≠ some t := fun h => a2 t (by rw [dj]; exact h) (by rw [sx]; exact ht)
  rw [e1', if_neg hne]
  cases hv : lk t s.env with
  | none => rfl
  | some v =>
   simp only [Option.map_some]
   have hin : v ∈ slotEVs s.env (x.o.looksAt ops) := slotEVs_mem ht hv
   rw [fU_stays j.U v fun n hn hm => a7 n (by rw [kj]; exact hn) (by rw [← fx]; simp only [footOf, List.mem_flatMap]; exact ⟨v, hin, hm⟩),
    fM_stays fun d hd hm => a10 d (by rw [dj]; exact hd) (by rw [← fx]; simp only [footOf, List.mem_flatMap]; exact ⟨v, hin, hm⟩)]
 have hpx : ∀ n, n ∉ updNames j.U → lk n s1'.pl = lk n s.pl := fun n hn => by rw [p1', plU_other _ _ _ hn]
 have prodx : Prod P Γ ops x.o s1' x.e x.U := by
  by_cases hlen : ∃ n, n ∈ updNames j.U ∧ n ∈ j.f.keepL ∧ n ∈ x.f.lenL
  ·obtain ⟨n, hn, hk, hl⟩ := hlen
   have hk' : n ∈ keepOf j.o s.env := by rw [← hfj] at hk; exact hk
   have hl' : n ∈ lenAt x.o s.env := by rw [← fx] at hl; exact hl
   have := keep_len prodj hk'
   rw [← p1'] at this
   exact Prod_len hx.prod hl' hsx this
  ·exact Prod_local hx.prod hsx (fun n hn => hpx n fun hc => (a6 n (by rw [cj]; exact hc)).elim (fun h => h (by rw [← fx]; exact hn)) fun h => hlen ⟨n, hc, h⟩) (fun n hn => hpx n fun hc => a5 n (by rw [← fx]; exact hn) (by rw [cj]; exact hc))
 obtain ⟨s2', hput2⟩ := putO_some hx.put (applyU x.U s1')
 refine ⟨s1', s2', hDj, ⟨prodx, hput2, fun t ht => by rw [hsx t ht]; exact hx.live t ht, by rw [← fx]; exact footOf_cong hsx⟩, ?_⟩
 obtain ⟨e2, p2⟩ := putO_lk hj.put
 obtain ⟨e2', p2'⟩ := putO_lk hput2
 constructor
 ·intro t
  rw [e2', e2]
  by_cases hxt : x.o.dst = some t
  ·have hjt : j.o.dst ≠ some t := fun h => a3 t (by rw [dx]; exact hxt) (by rw [dj]; exact h)
   rw [if_pos hxt, if_neg hjt, e1, if_pos hxt]
   simp only [Option.map_some]
   rw [fU_stays j.U x.e fun n hn hm => a8 n (by rw [kj]; exact hn) (by rw [ox]; exact hm), fM_stays fun d hd hm => a11 d (by rw [dj]; exact hd) (by rw [gx]; exact hm)]
  ·rw [if_neg hxt]
   by_cases hjt : j.o.dst = some t
   ·rw [if_pos hjt, e1', if_pos hjt]
    simp only [Option.map_some]
    rw [fU_stays x.U j.e fun n hn hm => a9 n (by rw [kx]; exact hn) (by rw [oj]; exact hm), fM_stays fun d hd hm => a12 d (by rw [dx]; exact hd) (by rw [gj]; exact hm)]
   ·rw [if_neg hjt, e1', if_neg hjt, e1, if_neg hxt, Option.map_map, Option.map_map]
    congr 1
    funext v
    exact ((fM_kil x.o.dst).comp (fU_kil x.U)).comm ((fM_kil j.o.dst).comp (fU_kil j.U)) v
 ·intro n
  rw [p2', p2, p1', p1]
  by_cases hn : n ∈ updNames x.U
  ·have hnj : n ∉ updNames j.U := fun h => a5 n (by rw [cx]; exact hn) (by rw [cj]; exact h)
   rw [plU_other j.U _ _ hnj, plU_other j.U _ _ hnj]
  ·rw [plU_other x.U _ _ hn, plU_other x.U _ _ hn]

end
end
end Go.Pv

namespace Go.Pv
noncomputable section

inductive Anc (ops : Array Oper) : Nat → Nat → Prop
 | here {i j : Nat} {o : Oper} {e : Edge} : ops[j]? = some o → e ∈ o.after → Region.binds .any e = true → e.on = i → Anc ops i j
 | on {i j : Nat} {o : Oper} {e : Edge} : ops[j]? = some o → e ∈ o.after → Region.binds .any e = true → Anc ops i e.on → Anc ops i j

def ancOf (fs : List (Nat × Nat × Foot)) (i : Nat) : Nat := match lk i fs with
 | some q => q.1
 | none => 0

def ancL (fs : List (Nat × Nat × Foot)) : List Edge → Nat
 | [] => 0
 | e :: r => bif Region.binds .any e then Nat.lor (Nat.lor (2 ^ e.on) (ancOf fs e.on)) (ancL fs r) else ancL fs r

def depsOk (i : Nat) (l : List Edge) : Bool := l.all fun e => !(Region.binds .any e) || Nat.blt e.on i

def liveAll (env : Env) (l : List Nat) : Bool := (slotEVs env l).all EV.live

def fits (fs : List (Nat × Nat × Foot)) (a : Nat) (f : Foot) : Bool := fs.all fun q => Nat.testBit a q.1 || apartF q.2.2 f

def nrmV {β : Type} (e : EV) (k : EV → β) : β := match e with
 | .dead => k .dead
 | .val d => k (.val d)
 | .cst v => k (.cst v)
 | .clip e xs => k (.clip e xs)
 | .at_ n p => k (.at_ n p)
 | .loc n p => k (.loc n p)
 | .oel n p e i q => k (.oel n p e i q)
 | .ref d => k (.ref d)
 | .tup l => k (.tup l)
 | .fn f l => k (.fn f l)
 | .maybe t w c v => k (.maybe t w c v)
 | .any => k .any
 | .none_ => k .none_
 | .alias t p d => k (.alias t p d)

theorem nrmV_eq {β : Type} (e : EV) (k : EV → β) : nrmV e k = k e := by cases e <;> rfl

def nrmE {β : Type} (l : Env) : (Env → β) → β := List.rec (motive := fun _ => (Env → β) → β) (fun k => k []) (fun q _ ih k => match q with | (n, e) => nrmV e fun e => ih fun r => k ((n, e) :: r)) l

theorem nrmE_eq {β : Type} (l : Env) (k : Env → β) : nrmE l k = k l := by
 induction l generalizing k with
 | nil => rfl
 | cons q l ih =>
  obtain ⟨n, e⟩ := q
  show nrmV e (fun e => nrmE l fun r => k ((n, e) :: r)) = _
  rw [nrmV_eq, ih]

def nrmP {β : Type} (l : Pl) : (Pl → β) → β := List.rec (motive := fun _ => (Pl → β) → β) (fun k => k []) (fun q _ ih k => match q with | (n, ⟨t, v⟩) => ih fun r => k ((n, ⟨t, v⟩) :: r)) l

theorem nrmP_eq {β : Type} (l : Pl) (k : Pl → β) : nrmP l k = k l := by
 induction l generalizing k with
 | nil => rfl
 | cons q l ih =>
  obtain ⟨n, t, v⟩ := q
  show (nrmP l fun r => k ((n, ⟨t, v⟩) :: r)) = _
  rw [ih]

def nrmS {β : Type} (s : St) (k : St → β) : β := nrmE s.env fun e => nrmP s.pl fun p => k ⟨e, p⟩

theorem nrmS_eq {β : Type} (s : St) (k : St → β) : nrmS s k = k s := by unfold nrmS; rw [nrmE_eq, nrmP_eq]

def nrmL {β : Type} (l : List Nat) : (List Nat → β) → β := List.rec (motive := fun _ => (List Nat → β) → β) (fun k => k []) (fun n _ ih k => ih fun r => k (n :: r)) l

theorem nrmL_eq {β : Type} (l : List Nat) (k : List Nat → β) : nrmL l k = k l := by
 induction l generalizing k with
 | nil => rfl
 | cons n l ih =>
  show (nrmL l fun r => k (n :: r)) = _
  rw [ih]

def nrmF {β : Type} (f : Foot) (k : Foot → β) : β := nrmL f.slots fun a => nrmL f.look fun b => nrmL f.hit fun c => nrmL f.hang fun d => nrmL f.hangO fun e => nrmL f.kills fun g => nrmL f.chg fun h => nrmL f.out fun i => nrmL f.keepL fun l => nrmL f.lenL fun m => k ⟨f.dst, a, b, c, d, e, g, h, i, l, m⟩

theorem nrmF_eq {β : Type} (f : Foot) (k : Foot → β) : nrmF f k = k f := by unfold nrmF; simp only [nrmL_eq]

def evalDraw {α : Type} (P : Program) (Γ : Nat → Option CSem) (nt : Nat) (ops : Array Oper) (k : St → Option α) : List (Nat × Nat × Foot) → Nat → List Oper → St → Option α
 | _, _, [], s => k s
 | fs, i, o :: r, s => one P Γ ops o s fun e u => nrmF (footOf ops o s.env e u) fun f =>
   bif depsOk i o.after.toList && (liveAll s.env (o.looksAt ops) && fits fs (ancL fs o.after.toList) f) then
    (putO nt o.dst e (applyU u s)).bind fun s' => nrmS s' fun s' => evalDraw P Γ nt ops k ((i, ancL fs o.after.toList, f) :: fs) (i + 1) r s'
   else none

section
variable {P : Program} {Γ : Nat → Option CSem} {ops : Array Oper} {nt : Nat}

def Run (P : Program) (Γ : Nat → Option CSem) (ops : Array Oper) (nt : Nat) : List Item → St → St → Prop
 | [], s, sf => Like s sf
 | it :: l, s, sf => ∃ s', Does1 P Γ ops nt it s s' ∧ Run P Γ ops nt l s' sf

theorem Run.like : ∀ {l : List Item} {s t sf : St}, Run P Γ ops nt l s sf → Like s t → Run P Γ ops nt l t sf
 | [], s, t, sf, h, hl => ⟨fun n => by rw [h.1, hl.1], fun n => by rw [h.2, hl.2]⟩
 | it :: l, s, t, sf, ⟨s', h1, h2⟩, hl => by
  obtain ⟨t', g1, g2⟩ := h1.like hl
  exact ⟨t', g1, h2.like g2⟩

theorem Run.pull : ∀ {l1 : List Item} {j : Item} {l2 : List Item} {s sf : St}, Run P Γ ops nt (l1 ++ j :: l2) s sf → (∀ x ∈ l1, apartF x.f j.f = true) → Run P Γ ops nt (j :: (l1 ++ l2)) s sf
 | [], j, l2, s, sf, h, _ => h
 | x :: l1, j, l2, s, sf, ⟨s1, h1, h2⟩, hap => by
  obtain ⟨s2, g1, g2⟩ := Run.pull h2 fun y hy => hap y (by simp [hy])
  obtain ⟨s1', s2', d1, d2, hl⟩ := swap h1 g1 (hap x (by simp))
  exact ⟨s1', d1, s2', d2, g2.like hl⟩

theorem Inv.like {X : Cx} {s t : St} {a : Act} {w : World} {B : Nat → Prop} {G : Nat → PG} (h : Inv X s a w B G) (hl : Like s t) : Inv X t a w B G := by
 have hL : look t = look s := funext fun n => hl.2 n
 refine ⟨h.defers, h.nt, h.bsz, h.b0, h.bold, ?_, ?_, ?_, ?_, h.size, h.old, h.rest, ?_, h.oaLt, ?_, h.objR⟩
 ·intro n e he; rw [hL]; exact h.env n e (by rw [← hl.1]; exact he)
 ·intro n d hd; exact h.pl n d (by rw [← hl.2]; exact hd)
 ·intro n d hd; exact h.sep n d (by rw [← hl.2]; exact hd)
 ·intro n m d d' hd hd'; exact h.apart n m d d' (by rw [← hl.2]; exact hd) (by rw [← hl.2]; exact hd')
 ·intro k d hd; exact h.obj k d (by rw [← hl.2]; exact hd)
 ·intro k b o s' ho
  obtain ⟨d, hd⟩ := h.objL k b o s' ho
  exact ⟨d, by rw [hl.2]; exact hd⟩

structure Left (ops : Array Oper) (l : List Item) (listed : Array Bool) : Prop where
 size : listed.size = ops.size
 un : ∀ j, listed.getD j true = false ↔ ∃ it ∈ l, it.idx = j
 op : ∀ it ∈ l, ops[it.idx]? = some it.o
 sorted : l.Pairwise fun x y => x.idx < y.idx
 deps : ∀ it ∈ l, ∀ e ∈ it.o.after, Region.binds .any e = true → e.on < it.idx
 pairs : l.Pairwise fun x y => Anc ops x.idx y.idx ∨ apartF x.f y.f = true
 down : ∀ j o, ops[j]? = some o → listed.getD j true = true → ∀ e ∈ o.after, Region.binds .any e = true → listed.getD e.on false = true

theorem getD_tf {listed : Array Bool} {j : Nat} (h : j < listed.size) : listed.getD j true = listed.getD j false := by
 simp [Array.getD_eq_getD_getElem?, h]

theorem getD_false_lt {listed : Array Bool} {j : Nat} (h : listed.getD j true = false) : j < listed.size := by
 rcases Nat.lt_or_ge j listed.size with h' | h'
 ·exact h'
 ·simp [Array.getD_eq_getD_getElem?, Array.getElem?_eq_none h'] at h

theorem getD_true_lt {listed : Array Bool} {j : Nat} (h : listed.getD j false = true) : j < listed.size := by
 rcases Nat.lt_or_ge j listed.size with h' | h'
 ·exact h'
 ·simp [Array.getD_eq_getD_getElem?, Array.getElem?_eq_none h'] at h

theorem Left.anc {l : List Item} {listed : Array Bool} (h : Left ops l listed) {i j : Nat} (ha : Anc ops i j) : (∀ o, ops[j]? = some o → ∀ e ∈ o.after, Region.binds .any e = true → listed.getD e.on false = true) → listed.getD i false = true := by
 induction ha with
 | here ho he hb heq => intro hj; rw [← heq]; exact hj _ ho _ he hb
 | on ho he hb _ ih =>
  intro hj
  have hon := hj _ ho _ he hb
  exact ih fun o' ho' => h.down _ o' ho' (by rw [getD_tf (getD_true_lt hon)]; exact hon)

theorem Left.first {it : Item} {l : List Item} {listed : Array Bool} (h : Left ops (it :: l) listed) : it.idx ∈ Region.ready .any ops listed := by
 rw [mem_ready]
 refine ⟨(h.un it.idx).2 ⟨it, by simp, rfl⟩, it.o, h.op it (by simp), fun e he hb => ?_⟩
 have hlt := h.deps it (by simp) e he hb
 cases hl : listed.getD e.on true with
 | false =>
  obtain ⟨it', hm, hi⟩ := (h.un e.on).1 hl
  rcases List.mem_cons.1 hm with rfl | hm
  ·omega
  ·have := (List.pairwise_cons.1 h.sorted).1 it' hm
   omega
 | true =>
  have hs := getD_false_lt ((h.un it.idx).2 ⟨it, by simp, rfl⟩)
  rw [← getD_tf (by omega)]; exact hl

theorem Left.take {l1 l2 : List Item} {j : Item} {listed : Array Bool} (h : Left ops (l1 ++ j :: l2) listed) (hr : j.idx ∈ Region.ready .any ops listed) : Left ops (l1 ++ l2) (listed.setIfInBounds j.idx true) := by
 have hsub : (l1 ++ l2).Sublist (l1 ++ j :: l2) := List.Sublist.append (List.Sublist.refl _) (List.sublist_cons_self _ _)
 have hne : ∀ x ∈ l1 ++ l2, x.idx ≠ j.idx := by
  intro x hx
  have hp := List.pairwise_append.1 h.sorted
  rcases List.mem_append.1 hx with hx | hx
  ·have := hp.2.2 x hx j (by simp); omega
  ·have := (List.pairwise_cons.1 hp.2.1).1 x hx; omega
 refine ⟨by rw [Array.size_setIfInBounds]; exact h.size, fun k => ?_, fun it hi => h.op it (hsub.subset hi), h.sorted.sublist hsub, fun it hi => h.deps it (hsub.subset hi), h.pairs.sublist hsub, ?_⟩
 ·constructor
  ·intro hk
   by_cases hkj : j.idx = k
   ·subst hkj
    have hlt := getD_false_lt hk
    rw [Array.size_setIfInBounds] at hlt
    simp [hlt] at hk
   ·rw [getD_set_ne true hkj] at hk
    obtain ⟨it, hm, hi⟩ := (h.un k).1 hk
    rcases List.mem_append.1 hm with hm | hm
    ·exact ⟨it, by simp [hm], hi⟩
    ·rcases List.mem_cons.1 hm with rfl | hm
     ·exact absurd hi hkj
     ·exact ⟨it, by simp [hm], hi⟩
  ·rintro ⟨it, hm, hi⟩
   have := hne it hm
   rw [getD_set_ne true (by omega)]
   exact (h.un k).2 ⟨it, hsub.subset hm, hi⟩
 ·intro k o ho hk e he hb
  by_cases hkj : j.idx = k
  ·subst hkj
   obtain ⟨_, o', ho', hall⟩ := mem_ready.1 hr
   rw [ho] at ho'
   obtain rfl := Option.some.inj ho'
   exact getD_set_true (hall e he hb)
  ·rw [getD_set_ne true hkj] at hk
   exact getD_set_true (h.down k o ho hk e he hb)

theorem any_ok {X : Cx} (hΓ : ∀ f sem, Γ f = some sem → ContractD X.dr X.P f sem) {Q : Exit → Act → World → Prop} {sf : St} (hQ : ∀ a w B G, Inv X sf a w B G → Q .normal a w) : ∀ (fuel : Nat) (l : List Item) (listed : Array Bool) (s : St) (a : Act) (w : World) (B : Nat → Prop) (G : Nat → PG),
  Left ops l listed → Inv X s a w B G → Run X.P Γ ops X.nt l s sf → l.length ≤ fuel → wpAny X.P .any ops Q fuel listed a w
 | fuel, [], listed, s, a, w, B, G, hL, hI, hR, _ => by
  refine wpAny_done ?_ (hQ a w B G (hI.like hR)) fuel
  cases hr : Region.ready .any ops listed with
  | nil => rfl
  | cons j r =>
   have hj : j ∈ Region.ready .any ops listed := by rw [hr]; simp
   obtain ⟨it, hm, _⟩ := (hL.un j).1 (mem_ready.1 hj).1
   cases hm
 | 0, _ :: _, _, _, _, _, _, _, _, _, _, hf => by simp at hf
 | fuel + 1, it :: l, listed, s, a, w, B, G, hL, hI, hR, hf => by
  refine ⟨fun h => absurd hL.first (by rw [h]; simp), fun j hj => ?_⟩
  obtain ⟨h0, o, ho, hall⟩ := mem_ready.1 hj
  obtain ⟨jt, hm, rfl⟩ := (hL.un j).1 h0
  obtain ⟨l1, l2, hll⟩ := List.append_of_mem hm
  have hop := hL.op jt hm
  rw [hop] at ho
  obtain rfl := Option.some.inj ho
  rw [hll] at hL hR
  have hap : ∀ x ∈ l1, apartF x.f jt.f = true := by
   intro x hx
   rcases (List.pairwise_append.1 hL.pairs).2.2 x hx jt (by simp) with h | h
   ·have hx1 := hL.anc h fun o' ho' => by
     rw [hop] at ho'
     obtain rfl := Option.some.inj ho'
     exact hall
    have hx0 := (hL.un x.idx).2 ⟨x, by simp [hx], rfl⟩
    rw [getD_tf (getD_true_lt hx1), hx1] at hx0
    cases hx0
   ·exact h
  obtain ⟨s1, hD, hR'⟩ := hR.pull hap
  unfold wpOp
  rw [hop]
  refine prod_wp hI hΓ hD.prod hD.put fun a' w' B' G' hI' => ?_
  refine any_ok hΓ hQ fuel (l1 ++ l2) _ s1 a' w' B' G' (hL.take hj) hI' hR' ?_
  have := congrArg List.length hll
  simp at this hf ⊢
  omega

theorem lk_in {β : Type} {m : Nat} {q : β} : ∀ {l : List (Nat × β)}, lk m l = some q → (m, q) ∈ l
 | (k, x) :: l, h => by
  simp only [lk] at h
  cases e : Nat.beq m k with
  | true =>
   rw [e] at h
   obtain rfl := Option.some.inj h
   rw [Nat.eq_of_beq_eq_true e]; simp
  | false =>
   rw [e] at h
   exact List.mem_cons_of_mem _ (lk_in h)

theorem ancL_anc {fs : List (Nat × Nat × Foot)} (hfs : ∀ q ∈ fs, ∀ i, Nat.testBit q.2.1 i = true → Anc ops i q.1) {j : Nat} {o : Oper} (ho : ops[j]? = some o) : ∀ (l : List Edge), (∀ e ∈ l, e ∈ o.after) → ∀ i, Nat.testBit (ancL fs l) i = true → Anc ops i j
 | [], _, i, h => by simp [ancL] at h
 | e :: r, hl, i, h => by
  simp only [ancL] at h
  have ih := ancL_anc hfs ho r fun e' he' => hl e' (by simp [he'])
  cases hb : Region.binds .any e with
  | false => rw [hb] at h; exact ih i h
  | true =>
   rw [hb] at h
   simp only [cond_true] at h
   have h : Nat.testBit (2 ^ e.on ||| ancOf fs e.on ||| ancL fs r) i = true := h
   rw [Nat.testBit_or, Nat.testBit_or, Bool.or_eq_true, Bool.or_eq_true] at h
   rcases h with (h | h) | h
   ·rw [Nat.testBit_two_pow] at h
    exact .here ho (hl e (by simp)) hb (of_decide_eq_true h)
   ·unfold ancOf at h
    cases hq : lk e.on fs with
    | none => rw [hq] at h; simp at h
    | some q =>
     rw [hq] at h
     have hmem : (e.on, q) ∈ fs := lk_in hq
     exact .on ho (hl e (by simp)) hb (hfs _ hmem i h)
   ·exact ih i h

theorem liveAll_spec : ∀ {l : List Nat} {env : Env}, liveAll env l = true → ∀ t ∈ l, lk t env ≠ some .dead := by
 intro l env h t ht hd
 have := List.all_eq_true.1 h _ (slotEVs_mem ht hd)
 cases this

theorem draw_collect {α : Type} {k : St → Option α} {r : α} : ∀ (l : List Oper) (fs : List (Nat × Nat × Foot)) (i : Nat) (s : St), (∀ n, l[n]? = ops[i + n]?) → (∀ q ∈ fs, ∀ a, Nat.testBit q.2.1 a = true → Anc ops a q.1) → evalDraw P Γ nt ops k fs i l s = some r →
  ∃ (its : List Item) (sf : St), Run P Γ ops nt its s sf ∧ k sf = some r ∧ its.length = l.length ∧ (∀ (n : Nat) it, its[n]? = some it → it.idx = i + n ∧ ops[it.idx]? = some it.o) ∧ (∀ it ∈ its, ∀ e ∈ it.o.after, Region.binds .any e = true → e.on < it.idx) ∧
   its.Pairwise (fun x y => Anc ops x.idx y.idx ∨ apartF x.f y.f = true) ∧ ∀ q ∈ fs, ∀ it ∈ its, Anc ops q.1 it.idx ∨ apartF q.2.2 it.f = true
 | [], fs, i, s, hl, hfs, h => ⟨[], s, Like.rfl' s, h, rfl, by simp, by simp, List.Pairwise.nil, by simp⟩
 | o :: l, fs, i, s, hl, hfs, h => by
  simp only [evalDraw] at h
  obtain ⟨e, U, hp, h⟩ := one_prod h
  rw [nrmF_eq] at h
  cases hc : (depsOk i o.after.toList && (liveAll s.env (o.looksAt ops) && fits fs (ancL fs o.after.toList) (footOf ops o s.env e U))) with
  | false => rw [hc] at h; cases h
  | true =>
   rw [hc] at h
   simp only [cond_true] at h
   simp only [Bool.and_eq_true] at hc
   obtain ⟨c1, c2, c3⟩ := hc
   obtain ⟨s', hput, h⟩ := bind_some h
   rw [nrmS_eq] at h
   have ho : ops[i]? = some o := by have := hl 0; simpa using this.symm
   have hanc : ∀ a, Nat.testBit (ancL fs o.after.toList) a = true → Anc ops a i := ancL_anc hfs ho o.after.toList fun e he => by simpa using he
   obtain ⟨its, sf, g1, g2, g3, g4, g5, g6, g7⟩ := draw_collect l ((i, ancL fs o.after.toList, footOf ops o s.env e U) :: fs) (i + 1) s' (fun n => by have := hl (n + 1); rw [show i + 1 + n = i + (n + 1) by omega]; simpa using this)
    (fun q hq a ha => by
     rcases List.mem_cons.1 hq with rfl | hq
     ·exact hanc a ha
     ·exact hfs q hq a ha) h
   refine ⟨⟨i, o, e, U, footOf ops o s.env e U⟩ :: its, sf, ⟨s', ⟨hp, hput, liveAll_spec c2, rfl⟩, g1⟩, g2, by simp [g3], ?_, ?_, ?_, ?_⟩
   ·intro n it hn
    cases n with
    | zero =>
     obtain rfl := Option.some.inj hn
     exact ⟨rfl, ho⟩
    | succ n =>
     obtain ⟨h1, h2⟩ := g4 n it (by simpa using hn)
     exact ⟨by omega, h2⟩
   ·intro it hit ed hed hb
    rcases List.mem_cons.1 hit with rfl | hit
    ·have := List.all_eq_true.1 c1 ed (by simpa using hed)
     rw [hb] at this
     simp only [Bool.not_true, Bool.false_or] at this
     exact Nat.le_of_ble_eq_true this
    ·exact g5 it hit ed hed hb
   ·refine List.pairwise_cons.2 ⟨fun it hit => ?_, g6⟩
    exact g7 (i, ancL fs o.after.toList, footOf ops o s.env e U) (by simp) it hit
   ·intro q hq it hit
    rcases List.mem_cons.1 hit with rfl | hit
    ·have := List.all_eq_true.1 c3 q hq
     rw [Bool.or_eq_true] at this
     exact this.imp (fun h => hanc q.1 h) id
    ·exact g7 q (by simp [hq]) it hit

theorem Inv.drawn {X : Cx} {st : St} {a : Act} {w : World} {B : Nat → Prop} {G : Nat → PG} (h : Inv X st a w B G) {m : Nat} (hm : w.drawn ≤ m) : Inv X st a { w with drawn := m } B G :=
 h.move [] { w with drawn := m } B G (Nat.le_refl _) ⟨rfl, rfl, rfl, fun _ => hm⟩ (fun b hb => ⟨rfl, hb⟩) h.bsz (fun _ _ h => .inl h) (fun _ _ _ => rfl) (fun n d hd => ⟨⟨Rel_same (w := w) (w' := { w with drawn := m }) (fun _ _ => rfl) (fun _ h => h) _ _ _ _ (h.pl n d hd).1 (fun _ _ => rfl), (h.pl n d hd).2⟩, h.sep n d hd⟩) (fun n m' d d' hd hd' => h.apart n m' d d' hd hd') (fun _ _ => rfl) (by simp) (fun k d hk => h.obj k d hk) (fun _ _ _ _ _ _ _ => rfl) (by simp)

theorem draw_ok {X : Cx} {α : Type} (hm : X.P.follows .mixedOrders = true) (hΓ : ∀ f sem, Γ f = some sem → ContractD X.dr X.P f sem) {k : St → Option α} {r : α} {Q : Exit → Act → World → Prop} (hk : ∀ st a w B G, Inv X st a w B G → k st = some r → Q .normal a w) {id : Nat} {st : St} {a : Act} {w : World} {B : Nat → Prop} {G : Nat → PG}
  (h : Inv X st a w B G) (he : evalDraw X.P Γ X.nt ops k [] 0 ops.toList st = some r) : (Code.region id ops true).wp X.P Q a w := by
 obtain ⟨its, sf, g1, g2, g3, g4, g5, g6, _⟩ := draw_collect ops.toList [] 0 st (fun n => by simp) (by simp) he
 refine wp_region_any hm ?_
 have hlen : its.length = ops.size := by rw [g3]; simp
 refine any_ok hΓ (fun a w B G hI => hk sf a w B G hI g2) ops.size its _ st a _ B G ⟨by simp, fun j => ?_, ?_, ?_, g5, g6, ?_⟩ (h.drawn (Nat.le_succ _)) g1 (by omega)
 ·constructor
  ·intro hj
   have hlt : j < ops.size := by simpa using getD_false_lt hj
   have hlt' : j < its.length := by omega
   obtain ⟨h1, _⟩ := g4 j its[j] (List.getElem?_eq_getElem hlt')
   exact ⟨its[j], List.getElem_mem hlt', by omega⟩
  ·rintro ⟨it, hm, rfl⟩
   obtain ⟨n, hn⟩ := List.getElem?_of_mem hm
   obtain ⟨h1, _⟩ := g4 n it hn
   have : n < its.length := (List.getElem?_eq_some_iff.1 hn).1
   have hlt : it.idx < ops.size := by omega
   simp [Array.getD_eq_getD_getElem?, hlt]
 ·intro it hm
  obtain ⟨n, hn⟩ := List.getElem?_of_mem hm
  exact (g4 n it hn).2
 ·rw [List.pairwise_iff_getElem]
  intro i j hi hj hij
  have h1 := (g4 i its[i] (List.getElem?_eq_getElem hi)).1
  have h2 := (g4 j its[j] (List.getElem?_eq_getElem hj)).1
  omega
 ·intro j o ho hj
  have hlt : j < ops.size := (Array.getElem?_eq_some_iff.1 ho).1
  simp [Array.getD_eq_getD_getElem?, hlt] at hj

end
end
end Go.Pv

namespace Go.Pv
noncomputable section

def iter {σ ρ : Type} (f : σ → Option (σ ⊕ ρ)) : Nat → σ → Option ρ
 | 0, _ => none
 | n + 1, x => match f x with
  | none => none
  | some (.inr r) => some r
  | some (.inl y) => iter f n y

def loopR {σ ρ : Type} (f : σ → Option (σ ⊕ ρ)) (x : σ) : Option ρ := open Classical in
 if h : ∃ n r, iter f n x = some r then some (Classical.choose (Classical.choose_spec h)) else none

inductive SK where
 | dat (t : Ty) | own (e : Ty) (app : Bool) | loc (n : Nat) (p : Path) | fn (f : Nat) (l : List (Nat × Path)) | lies (n : Nat) (p : Path)

structure Shape where
 slots : List (Nat × SK)
 pls : List (Nat × Ty)

def appTy : Bool → Ty → Ty
 | true, e => .app e
 | false, .iter => .iter
 | false, e => .own e

@[reducible] def ShS : List (Nat × SK) → Type
 | [] => Unit
 | (_, .dat t) :: r => T t × ShS r
 | (_, .own e b) :: r => T (appTy b e) × ShS r
 | (_, .loc _ _) :: r => ShS r
 | (_, .fn _ _) :: r => ShS r
 | (_, .lies _ _) :: r => ShS r

@[reducible] def PlS : List (Nat × Ty) → Type
 | [] => Unit
 | (_, t) :: r => T t × PlS r

def hName (t : Nat) : Nat := 2 * (16 * t + 15)

def ownNames : List (Nat × SK) → List Nat
 | [] => []
 | (t, .own _ _) :: r => hName t :: ownNames r
 | _ :: r => ownNames r

def pathEq : Path → Path → Bool
 | [], [] => true
 | .fld i :: p, .fld j :: q => Nat.beq i j && pathEq p q
 | _, _ => false

def capsEq : List (Nat × Path) → List EV → Bool
 | [], [] => true
 | (n, p) :: l, .loc m q :: r => Nat.beq n m && pathEq p q && capsEq l r
 | _, _ => false

def capsOf (l : List (Nat × Path)) : List EV := l.map fun q => .loc q.1 q.2

def ownSrcs (env : Env) : List (Nat × SK) → List Nat
 | [] => []
 | (t, .own _ _) :: r => match lk t env with
  | some (.at_ n _) => n :: ownSrcs env r
  | _ => ownSrcs env r
 | _ :: r => ownSrcs env r

def absS (L : Look) (env : Env) : (l : List (Nat × SK)) → Option (ShS l)
 | [] => some ()
 | (t, .dat τ) :: r => (lk t env).bind fun e => (e.rd L).bind fun y => match y with
  | ⟨ty, some v⟩ => if ty.pure && τ.pure then (cv ty τ).bind fun f => (absS L env r).map fun z => (f v, z) else none
  | _ => none
 | (t, .own e b) :: r => (lk t env).bind fun x => match x with
  | .at_ n [] => if Nat.beq (n % 2) 0 then (L n).bind fun d => (cv d.ty (appTy b e)).bind fun f => (absS L env r).map fun z => (f d.val, z) else none
  | .val d => if d.ty.pure then (cv d.ty (appTy b e)).bind fun f => (absS L env r).map fun z => (f d.val, z) else none
  | _ => none
 | (t, .loc n p) :: r => (lk t env).bind fun x => match x with
  | .loc m q => if Nat.beq n m && pathEq p q then absS L env r else none
  | _ => none
 | (t, .fn f l) :: r => (lk t env).bind fun x => match x with
  | .fn g c => if Nat.beq f g && capsEq l c then absS L env r else none
  | _ => none
 | (t, .lies n p) :: r => (lk t env).bind fun x => match x with
  | .at_ m q => if Nat.beq n m && pathEq p q then absS L env r else none
  | _ => none

def absP (L : Look) : (l : List (Nat × Ty)) → Option (PlS l)
 | [] => some ()
 | (n, τ) :: r => (L n).bind fun d => if sk d.ty = sk τ then (cv d.ty τ).bind fun f => (absP L r).map fun z => (f d.val, z) else none

def locsIn (names : List Nat) : List (Nat × SK) → Bool
 | [] => true
 | (_, .loc n _) :: r => names.any (Nat.beq n) && locsIn names r
 | (_, .fn _ l) :: r => l.all (fun q => names.any (Nat.beq q.1)) && locsIn names r
 | (_, .lies n p) :: r => (names.any (Nat.beq n) && !p.isEmpty) && locsIn names r
 | _ :: r => locsIn names r

def upTo : Nat → List Nat
 | 0 => []
 | n + 1 => n :: upTo n

def Shape.ok (nob : Nat) (sh : Shape) : Bool :=
 nodupN (ownNames sh.slots ++ sh.pls.map (·.1)) && locsIn (sh.pls.map (·.1)) sh.slots && (upTo nob).all fun k => (sh.pls.map (·.1)).any (Nat.beq (objName k))

abbrev Sg (sh : Shape) : Type := ShS sh.slots × PlS sh.pls

def abs (nob : Nat) (sh : Shape) (s : St) : Option (Sg sh) :=
 if sh.ok nob && nodupN (ownSrcs s.env sh.slots ++ sh.pls.map (·.1)) then (absS (fun n => lk n s.pl) s.env sh.slots).bind fun x => (absP (fun n => lk n s.pl) sh.pls).map fun y => (x, y) else none

def concE : (l : List (Nat × SK)) → ShS l → Env
 | [], _ => []
 | (t, .dat τ) :: r, x => (t, .val ⟨τ, x.1⟩) :: concE r x.2
 | (t, .own _ _) :: r, x => (t, .at_ (hName t) []) :: concE r x.2
 | (t, .loc n p) :: r, x => (t, .loc n p) :: concE r x
 | (t, .fn f l) :: r, x => (t, .fn f (capsOf l)) :: concE r x
 | (t, .lies n p) :: r, x => (t, .at_ n p) :: concE r x

def concO : (l : List (Nat × SK)) → ShS l → Pl
 | [], _ => []
 | (_, .dat _) :: r, x => concO r x.2
 | (t, .own e b) :: r, x => (hName t, ⟨appTy b e, x.1⟩) :: concO r x.2
 | (_, .loc _ _) :: r, x => concO r x
 | (_, .fn _ _) :: r, x => concO r x
 | (_, .lies _ _) :: r, x => concO r x

def concP : (l : List (Nat × Ty)) → PlS l → Pl
 | [], _ => []
 | (n, τ) :: r, x => (n, ⟨τ, x.1⟩) :: concP r x.2

def conc (sh : Shape) (x : Sg sh) : St := ⟨concE sh.slots x.1, concO sh.slots x.1 ++ concP sh.pls x.2⟩

structure Cfg where
 P : Program
 Γ : Nat → Option CSem
 nt : Nat
 nob : Nat
 ann : Nat → Option Shape
 sh : Bool := false

def boolE (s : St) (c : Operand) : Option Bool := (Eop s.env [] c).bind fun e => match e with
 | .cst (.bool b) => some b
 | e => (e.rd fun n => lk n s.pl).bind fun d => match d with
  | ⟨.bool, some b⟩ => some b
  | _ => none

def anyE (s : St) (c : Operand) : Bool := match Eop s.env [] c with
 | some .any => true
 | _ => false

def amb {α : Type} (x y : Option α) : Option α := open Classical in if x = y then x else none

def sharp (sh : Bool) (s : St) (c : Operand) (b : Bool) : St := match sh with
 | false => s
 | true => match c with
  | .tmp t => match lk t s.env with
   | some (.val ⟨.bool, _⟩) => ⟨put t (.val ⟨.bool, b⟩) s.env, s.pl⟩
   | _ => s
  | _ => s

def evalCode (C : Cfg) : Code → {α : Type} → Nat → St → (St → Option α) → List (Nat × (St → Option α)) → (St → Option α) → Option α
 | .skip, _, _, s, kn, _, _ => kn s
 | .region _ ops d, _, _, s, kn, _, _ => bif d then (bif C.P.follows .mixedOrders then evalDraw C.P C.Γ C.nt ops kn [] 0 ops.toList s else none) else evalRegion C.P C.Γ C.nt ops s kn
 | .seq x y, _, cur, s, kn, kx, kr => evalCode C x cur s (fun s => evalCode C y cur s kn kx kr) kx kr
 | .cond c x y, _, cur, s, kn, kx, kr => bif anyE s c then amb (evalCode C x cur s kn kx kr) (evalCode C y cur s kn kx kr) else
   (boolE s c).bind fun b => bif b then evalCode C x cur (sharp C.sh s c true) kn kx kr else evalCode C y cur (sharp C.sh s c false) kn kx kr
 | .block id x, _, _, s, kn, kx, kr => evalCode C x id s kn ((id, kn) :: kx) kr
 | .loop x, α, cur, s, _, kx, kr => (C.ann cur).bind fun sh => (abs C.nob sh s).bind fun y =>
   loopR (fun z => evalCode C x (α := Sg sh ⊕ α) cur (conc sh z) (fun s => (abs C.nob sh s).map .inl) (kx.map fun q => (q.1, fun s => (q.2 s).map .inr)) (fun s => (kr s).map .inr)) y
 | .exit id, _, _, s, _, kx, _ => (lk id kx).bind fun k => k s
 | .label _, _, _, s, kn, _, _ => kn s
 | .scope x, _, cur, s, kn, kx, kr => evalCode C x cur s kn kx kr
 | .ret, _, _, s, _, _, kr => kr s
 | _, _, _, _, _, _, _ => none

inductive AK where
 | val (t : Ty) | obj (t : Ty) | ref (t : Ty) | fnc (f : Nat) | own (t : Ty) | fno (f : Nat) (t : Ty)

@[reducible] def ArgT : List AK → Type
 | [] => Unit
 | .val t :: l => T t × ArgT l
 | .obj t :: l => T t × ArgT l
 | .ref t :: l => T t × ArgT l
 | .fnc _ :: l => ArgT l
 | .fno _ t :: l => T t × ArgT l
 | .own t :: l => T t × ArgT l

def matchArgs : (l : List AK) → List AV → Option (ArgT l)
 | [], [] => some ()
 | .val t :: l, .val d :: r => if t.pure then (cv d.ty t).bind fun f => (matchArgs l r).map fun z => (f d.val, z) else none
 | .obj t :: l, .obj d :: r => if sk d.ty = sk t then (cv d.ty t).bind fun f => (matchArgs l r).map fun z => (f d.val, z) else none
 | .ref t :: l, .ref d :: r => if t.pure then (cv d.ty t).bind fun f => (matchArgs l r).map fun z => (f d.val, z) else none
 | .fnc f :: l, .fn g [] :: r => if Nat.beq f g then matchArgs l r else none
 | .fno f t :: l, .fno g d :: r => if Nat.beq f g ∧ sk d.ty = sk t then (cv d.ty t).bind fun f => (matchArgs l r).map fun z => (f d.val, z) else none
 | .own t :: l, .own d :: r => if Nat.beq t.size 1 && !t.isAgg then (cv d.ty t).bind fun f => (matchArgs l r).map fun z => (f d.val, z) else none
 | _, _ => none

structure Sig where
 args : List AK
 res : List RK
 outs : List Ty

def ownAt : List AK → Nat → Bool
 | [], _ => false
 | .own _ :: _, 0 => true
 | _ :: _, 0 => false
 | _ :: l, i + 1 => ownAt l i

def mkSemA (args : List AK) (alts : List Alt) (F : ArgT args → Option (AltT alts)) : CSem := ⟨ownAt args, fun avs => (matchArgs args avs).map fun x => ⟨alts, F x⟩, none, none⟩

def mkSem (S : Sig) (F : ArgT S.args → Option (ResT S.res × ObjT S.outs)) : CSem := mkSemA S.args [(S.res, S.outs)] F

def orSem (f g : CSem) : CSem := ⟨f.own, fun avs => match f.run avs with
 | some s => some s
 | none => g.run avs, none, none⟩

def wName (j : Nat) : Nat := 2 * (16 * j + 14)

def entE : Nat → Nat → Nat → (l : List AK) → ArgT l → Env
 | _, _, _, [], _ => []
 | i, k, j, .val t :: l, x => (i, .val ⟨t, x.1⟩) :: entE (i + 1) k j l x.2
 | i, k, j, .obj _ :: l, x => (i, .loc (objName k) []) :: entE (i + 1) (k + 1) j l x.2
 | i, k, j, .ref t :: l, x => (i, .ref ⟨t, x.1⟩) :: entE (i + 1) k j l x.2
 | i, k, j, .fnc f :: l, x => (i, .fn f []) :: entE (i + 1) k j l x
 | i, k, j, .fno f _ :: l, x => (i, .fn f [.loc (objName k) []]) :: entE (i + 1) (k + 1) j l x.2
 | i, k, j, .own _ :: l, x => (i, .at_ (wName j) []) :: entE (i + 1) k (j + 1) l x.2

def entP : Nat → Nat → (l : List AK) → ArgT l → Pl
 | _, _, [], _ => []
 | k, j, .val _ :: l, x => entP k j l x.2
 | k, j, .obj t :: l, x => (objName k, ⟨t, x.1⟩) :: entP (k + 1) j l x.2
 | k, j, .ref _ :: l, x => entP k j l x.2
 | k, j, .fnc _ :: l, x => entP k j l x
 | k, j, .fno _ t :: l, x => (objName k, ⟨t, x.1⟩) :: entP (k + 1) j l x.2
 | k, j, .own t :: l, x => (wName j, ⟨t, x.1⟩) :: entP k (j + 1) l x.2

def nObj : List AK → Nat
 | [] => 0
 | .obj _ :: l => nObj l + 1
 | .fno _ _ :: l => nObj l + 1
 | _ :: l => nObj l

def entry (l : List AK) (x : ArgT l) : St := ⟨entE 0 0 0 l x, entP 0 0 l x⟩

def resNames (env : Env) : List Nat → List RK → List Nat
 | t :: ts, .own _ :: rs => match lk t env with
  | some (.at_ n _) => n :: resNames env ts rs
  | _ => resNames env ts rs
 | t :: ts, .ptr _ :: rs => match lk t env with
  | some (.loc n _) => n :: resNames env ts rs
  | _ => resNames env ts rs
 | _ :: ts, _ :: rs => resNames env ts rs
 | _, _ => []

def finR : List Nat → (rs : List RK) → St → Option (ResT rs × St)
 | [], [], s => some ((), s)
 | t :: ts, .val τ :: rs, s => (lk t s.env).bind fun e => (e.take fun n => lk n s.pl).bind fun y => match y.1 with
  | ⟨ty, some v⟩ => if τ.pure then (cv ty τ).bind fun f => (finR ts rs (applyU y.2 s)).map fun z => ((f v, z.1), z.2) else none
  | _ => none
 | t :: ts, .own τ :: rs, s => (lk t s.env).bind fun e => match e with
  | .at_ n [] => if Nat.beq (n % 2) 0 then (finR ts rs s).bind fun z => (lk n z.2.pl).bind fun d => (cv d.ty τ).map fun f => ((f d.val, z.1), z.2) else none
  | .val d => (cv d.ty τ).bind fun f => (finR ts rs s).map fun z => ((f d.val, z.1), z.2)
  | .clip e xs => (cv (.app e) τ).bind fun f => (finR ts rs s).map fun z => ((f xs, z.1), z.2)
  | _ => none
 | t :: ts, .ptr τ :: rs, s => (lk t s.env).bind fun e => match e with
  | .loc n [] => if Nat.beq (n % 2) 0 then (finR ts rs s).bind fun z => (lk n z.2.pl).bind fun d => (cv d.ty τ).map fun f => ((f d.val, z.1), z.2) else none
  | _ => none
 | _, _, _ => none

def finO (pl : Pl) : Nat → (l : List Ty) → Option (ObjT l)
 | _, [] => some ()
 | k, τ :: l => (lk (objName k) pl).bind fun d => (cv d.ty τ).bind fun f => (finO pl (k + 1) l).map fun z => (f d.val, z)

def fin1 (A : Alt) (ts : List Nat) (s : St) : Option (ResT A.1 × ObjT A.2) :=
 if nodupN (resNames s.env ts A.1) then (finR ts A.1 s).bind fun z => (finO z.2.pl 0 A.2).map fun o => (z.1, o) else none

def fin (S : Sig) (ts : List Nat) (s : St) : Option (ResT S.res × ObjT S.outs) := fin1 (S.res, S.outs) ts s

def finA : (l : List Alt) → List Nat → St → Option (AltT l)
 | [], _, _ => none
 | [A], ts, s => fin1 A ts s
 | A :: b :: l, ts, s => match fin1 A ts s with
  | some z => some (.inl z)
  | none => (finA (b :: l) ts s).map .inr

def cellE (P : Program) (s : St) (t : Nat) (ty : TypeId) : Option EV := (lk t s.env).bind fun e => match e with
 | .loc n p => (listAt (fun n => lk n s.pl) n p).bind fun y => if sizeOk P ty y.ty then match y with
   | ⟨τ, some v⟩ => some (if τ.pure then .val ⟨τ, v⟩ else .at_ n p)
   | _ => none
  else none
 | _ => none

def loadCells (P : Program) (nt : Nat) : List (Nat × Option TypeId) → St → Option St
 | [], s => some s
 | (t, none) :: r, s => if r.any (fun q => q.2.isSome && Nat.beq t q.1) then none else loadCells P nt r s
 | (t, some ty) :: r, s => if r.any (fun q => Nat.beq t q.1) || !(Nat.blt t nt) then none else (cellE P s t ty).bind fun e => loadCells P nt r ⟨putE t e s.env, s.pl⟩

def runF (C : Cfg) (S : Sig) (c : Code) (ts : List Nat) (x : ArgT S.args) : Option (ResT S.res × ObjT S.outs) :=
 evalCode C c 0 (entry S.args x) (fin S ts) [] (fin S ts)

def runFA (C : Cfg) (args : List AK) (alts : List Alt) (c : Code) (ts : List (Nat × Option TypeId)) (x : ArgT args) : Option (AltT alts) :=
 evalCode C c 0 (entry args x) (fun s => (loadCells C.P C.nt ts s).bind fun s => finA alts (ts.map (·.1)) s) [] (fun s => (loadCells C.P C.nt ts s).bind fun s => finA alts (ts.map (·.1)) s)

end
end Go.Pv

namespace Go.Pv
noncomputable section
universe u v

theorem loopR_some {σ ρ : Type} {f : σ → Option (σ ⊕ ρ)} {x : σ} {r : ρ} (h : loopR f x = some r) : ∃ n, iter f n x = some r := by
 unfold loopR at h
 split at h
 ·rename_i hx
  obtain rfl := Option.some.inj h
  exact ⟨_, Classical.choose_spec (Classical.choose_spec hx)⟩
 ·cases h

abbrev Ent1 := Dyn × PG × Option Nat

theorem lk_mem' {α : Type} {m : Nat} {q : α} : ∀ {l : List (Nat × α)}, lk m l = some q → (m, q) ∈ l
 | (k, x) :: l, h => by
  simp only [lk] at h
  by_cases e : m = k
  ·subst e
   simp only [Nat.beq_refl, cond_true, Option.some.injEq] at h
   subst h; simp
  ·rw [beq_ne e] at h
   exact List.mem_cons_of_mem _ (lk_mem' h)

theorem lk_some_names {α : Type} {m : Nat} {l : List (Nat × α)} (h : m ∈ l.map (·.1)) : ∃ q, lk m l = some q := by
 cases hl : lk m l with
 | some q => exact ⟨q, rfl⟩
 | none => exact absurd h (lk_none_names hl)

theorem src_inj {α : Type} {f : Nat × α → Option Nat} {n : Nat} : ∀ {es : List (Nat × α)}, (es.filterMap f).Nodup → ∀ {x y : Nat × α}, x ∈ es → y ∈ es → x ≠ y → f x = some n → f y = some n → False
 | z :: es, hn, x, y, hx, hy, hne, h1, h2 => by
  have hrest : (es.filterMap f).Nodup := by
   rw [List.filterMap_cons] at hn
   split at hn
   ·exact hn
   ·exact (List.nodup_cons.1 hn).2
  have hnot : ∀ u ∈ es, f z = some n → f u = some n → False := by
   intro u hu hz hfu
   rw [List.filterMap_cons, hz] at hn
   exact (List.nodup_cons.1 hn).1 (List.mem_filterMap.2 ⟨u, hu, hfu⟩)
  rcases List.mem_cons.1 hx with e1 | hx1
  ·rcases List.mem_cons.1 hy with e2 | hy1
   ·exact hne (e1.trans e2.symm)
   ·exact hnot y hy1 (e1 ▸ h1) h2
  ·rcases List.mem_cons.1 hy with e2 | hy1
   ·exact hnot x hx1 (e2 ▸ h2) h1
   ·exact src_inj hrest hx1 hy1 hne h1 h2

section
variable {X : Cx} {st : St} {a : Act} {w : World} {B : Nat → Prop} {G : Nat → PG}

theorem appTy_sz (b : Bool) (e : Ty) : (appTy b e).size = 1 ∧ (appTy b e).isAgg = false := by cases b <;> cases e <;> exact ⟨rfl, rfl⟩

theorem pathEq_ok : ∀ {p q : Path}, pathEq p q = true → p = q
 | [], [], _ => rfl
 | .fld i :: p, .fld j :: q, h => by
  simp only [pathEq, Bool.and_eq_true] at h
  rw [Nat.eq_of_beq_eq_true h.1, pathEq_ok h.2]
 | .fld _ :: _, .idx _ :: _, h => by cases h
 | .idx _ :: _, _ :: _, h => by cases h
 | [], _ :: _, h => by cases h
 | .fld _ :: _, [], h => by cases h
 | .idx _ :: _, [], h => by cases h

def skE : SK → Option EV
 | .loc n p => some (.loc n p)
 | .fn f l => some (.fn f (capsOf l))
 | .lies n p => some (.at_ n p)
 | _ => none

theorem capsEq_ok : ∀ {l : List (Nat × Path)} {c : List EV}, capsEq l c = true → c = capsOf l
 | [], [], _ => rfl
 | (n, p) :: l, .loc m q :: c, h => by
  simp only [capsEq, Bool.and_eq_true] at h
  rw [capsEq_ok h.2, ← Nat.eq_of_beq_eq_true h.1.1, ← pathEq_ok h.1.2]; rfl
 | [], _ :: _, h => by cases h
 | (n, p) :: l, [], h => by cases h
 | (n, p) :: l, .dead :: c, h => by cases h
 | (n, p) :: l, .val _ :: c, h => by cases h
 | (n, p) :: l, .cst _ :: c, h => by cases h
 | (n, p) :: l, .clip _ _ :: c, h => by cases h
 | (n, p) :: l, .at_ _ _ :: c, h => by cases h
 | (n, p) :: l, .oel _ _ _ _ _ :: c, h => by cases h
 | (n, p) :: l, .ref _ :: c, h => by cases h
 | (n, p) :: l, .tup _ :: c, h => by cases h
 | (n, p) :: l, .fn _ _ :: c, h => by cases h
 | (n, p) :: l, .maybe _ _ _ _ :: c, h => by cases h
 | (n, p) :: l, .any :: c, h => by cases h
 | (n, p) :: l, .none_ :: c, h => by cases h

theorem absS_ok (h : Inv X st a w B G) : ∀ (l : List (Nat × SK)) (x : ShS l), (ownNames l).Nodup → absS (look st) st.env l = some x → ∃ es : List (Nat × Ent1), concO l x = es.map (fun q => (q.1, q.2.1)) ∧ es.map (·.1) = ownNames l ∧ es.filterMap (fun q => q.2.2.2) = ownSrcs st.env l ∧
  (∀ q ∈ es, q.1 % 2 = 0 ∧ PlR w B q.2.2.1 q.2.1 ∧ (∀ n, q.2.2.2 = some n → q.2.2.1 = G n ∧ ∃ d, lk n st.pl = some d) ∧ (q.2.2.2 = none → q.2.2.1.blocks = [])) ∧
  ∀ t e, lk t (concE l x) = some e → (∃ d, e = .val d ∧ d.ty.pure = true ∧ VR w B d.ty d.val (tv a t) []) ∨
   (e = .at_ (hName t) [] ∧ ∀ q, (hName t, q) ∈ es → q.2.1.cells = (tv a t).cells.toList ∧ q.1.ty.size = 1 ∧ q.1.ty.isAgg = false ∧ Value.agg? (tv a t) = false) ∨ (∃ k, skE k = some e ∧ (t, k) ∈ l ∧ EVR (tv a) w B G (look st) e (tv a t))
 | [], x, _, _ => ⟨[], rfl, rfl, rfl, by simp, by intro t e h; cases h⟩
 | (t, .dat τ) :: r, x, hn, ha => by
  simp only [absS] at ha
  obtain ⟨e, he, ha⟩ := bind_some ha
  obtain ⟨y, hy, ha⟩ := bind_some ha
  split at ha
  ·rename_i ty v
   split at ha
   ·rename_i hp
    simp only [Bool.and_eq_true] at hp
    obtain ⟨f, hf, ha⟩ := bind_some ha
    obtain ⟨z, hz, rfl⟩ := Option.map_eq_some_iff.1 ha
    obtain ⟨es, h1, h2, h3, h4, h5⟩ := absS_ok h r z hn hz
    refine ⟨es, h1, h2, h3, h4, fun t' e' hl => ?_⟩
    simp only [concE, lk] at hl
    by_cases et : t' = t
    ·subst et
     simp only [Nat.beq_refl, cond_true, Option.some.injEq] at hl
     subst hl
     have hv := val_ok h (h.env _ e he) hy hp.1
     simp only [EVR] at hv
     exact .inl ⟨_, rfl, hp.2, cv_rel ty τ f hf v _ _ hv.2.1, by rw [hv.2.2]; exact cv_agg ty τ f hf⟩
    ·rw [beq_ne et] at hl
     rcases h5 t' e' hl with h6 | h6 | ⟨k, h6, h7, h8⟩
     ·exact .inl h6
     ·exact .inr (.inl h6)
     ·exact .inr (.inr ⟨k, h6, by simp [h7], h8⟩)
   ·cases ha
  ·cases ha
 | (t, .loc n p) :: r, x, hn, ha => by
  simp only [absS] at ha
  obtain ⟨e, he, ha⟩ := bind_some ha
  split at ha
  ·rename_i m q
   split at ha
   ·rename_i hk
    simp only [Bool.and_eq_true] at hk
    obtain rfl := Nat.eq_of_beq_eq_true hk.1
    obtain rfl := pathEq_ok hk.2
    obtain ⟨es, h1, h2, h3, h4, h5⟩ := absS_ok h r x hn ha
    refine ⟨es, h1, h2, h3, h4, fun t' e' hl => ?_⟩
    simp only [concE, lk] at hl
    by_cases et : t' = t
    ·subst et
     simp only [Nat.beq_refl, cond_true, Option.some.injEq] at hl
     subst hl
     exact .inr (.inr ⟨.loc n p, rfl, by simp, h.env _ _ he⟩)
    ·rw [beq_ne et] at hl
     rcases h5 t' e' hl with h6 | h6 | ⟨k', h6, h7, h8⟩
     ·exact .inl h6
     ·exact .inr (.inl h6)
     ·exact .inr (.inr ⟨k', h6, by simp [h7], h8⟩)
   ·cases ha
  ·cases ha
 | (t, .lies n p) :: r, x, hn, ha => by
  simp only [absS] at ha
  obtain ⟨e, he, ha⟩ := bind_some ha
  split at ha
  ·rename_i m q
   split at ha
   ·rename_i hk
    simp only [Bool.and_eq_true] at hk
    obtain rfl := Nat.eq_of_beq_eq_true hk.1
    obtain rfl := pathEq_ok hk.2
    obtain ⟨es, h1, h2, h3, h4, h5⟩ := absS_ok h r x hn ha
    refine ⟨es, h1, h2, h3, h4, fun t' e' hl => ?_⟩
    simp only [concE, lk] at hl
    by_cases et : t' = t
    ·subst et
     simp only [Nat.beq_refl, cond_true, Option.some.injEq] at hl
     subst hl
     exact .inr (.inr ⟨.lies n p, rfl, by simp, h.env _ _ he⟩)
    ·rw [beq_ne et] at hl
     rcases h5 t' e' hl with h6 | h6 | ⟨k', h6, h7, h8⟩
     ·exact .inl h6
     ·exact .inr (.inl h6)
     ·exact .inr (.inr ⟨k', h6, by simp [h7], h8⟩)
   ·cases ha
  ·cases ha
 | (t, .fn f l) :: r, x, hn, ha => by
  simp only [absS] at ha
  obtain ⟨e, he, ha⟩ := bind_some ha
  split at ha
  ·rename_i g c
   split at ha
   ·rename_i hk
    simp only [Bool.and_eq_true] at hk
    obtain rfl := Nat.eq_of_beq_eq_true hk.1
    obtain rfl := capsEq_ok hk.2
    obtain ⟨es, h1, h2, h3, h4, h5⟩ := absS_ok h r x hn ha
    refine ⟨es, h1, h2, h3, h4, fun t' e' hl => ?_⟩
    simp only [concE, lk] at hl
    by_cases et : t' = t
    ·subst et
     simp only [Nat.beq_refl, cond_true, Option.some.injEq] at hl
     subst hl
     exact .inr (.inr ⟨.fn f l, rfl, by simp, h.env _ _ he⟩)
    ·rw [beq_ne et] at hl
     rcases h5 t' e' hl with h6 | h6 | ⟨k', h6, h7, h8⟩
     ·exact .inl h6
     ·exact .inr (.inl h6)
     ·exact .inr (.inr ⟨k', h6, by simp [h7], h8⟩)
   ·cases ha
  ·cases ha
 | (t, .own e b) :: r, x, hn, ha => by
  simp only [absS] at ha
  obtain ⟨ev, he, ha⟩ := bind_some ha

  have step : ∀ (d : T (appTy b e)) (z : ShS r) (g : PG) (src : Option Nat), absS (look st) st.env r = some z → x = (d, z) → PlR w B g ⟨appTy b e, d⟩ → (∀ n, src = some n → g = G n ∧ ∃ d, lk n st.pl = some d) → (src = none → g.blocks = []) →
    g.cells = (tv a t).cells.toList → Value.agg? (tv a t) = false → ownSrcs st.env ((t, .own e b) :: r) = (match src with | some n => n :: ownSrcs st.env r | none => ownSrcs st.env r) →
    ∃ es : List (Nat × Ent1), concO ((t, .own e b) :: r) x = es.map (fun q => (q.1, q.2.1)) ∧ es.map (·.1) = ownNames ((t, .own e b) :: r) ∧ es.filterMap (fun q => q.2.2.2) = ownSrcs st.env ((t, .own e b) :: r) ∧
     (∀ q ∈ es, q.1 % 2 = 0 ∧ PlR w B q.2.2.1 q.2.1 ∧ (∀ n, q.2.2.2 = some n → q.2.2.1 = G n ∧ ∃ d, lk n st.pl = some d) ∧ (q.2.2.2 = none → q.2.2.1.blocks = [])) ∧
     ∀ t' e', lk t' (concE ((t, .own e b) :: r) x) = some e' → (∃ d, e' = .val d ∧ d.ty.pure = true ∧ VR w B d.ty d.val (tv a t') []) ∨
      (e' = .at_ (hName t') [] ∧ ∀ q, (hName t', q) ∈ es → q.2.1.cells = (tv a t').cells.toList ∧ q.1.ty.size = 1 ∧ q.1.ty.isAgg = false ∧ Value.agg? (tv a t') = false) ∨ (∃ k, skE k = some e' ∧ (t', k) ∈ ((t, .own e b) :: r) ∧ EVR (tv a) w B G (look st) e' (tv a t')) := by
   intro d z g src hz hx hpl hs1 hs2 hc hag hsrc
   subst hx
   have hn1 := List.nodup_cons.1 (show (hName t :: ownNames r).Nodup from hn)
   obtain ⟨es, h1, h2, h3, h4, h5⟩ := absS_ok h r z hn1.2 hz
   refine ⟨(hName t, (⟨appTy b e, d⟩, g, src)) :: es, by simp [concO, h1], by simp [ownNames, h2], ?_, ?_, ?_⟩
   ·rw [List.filterMap_cons, hsrc]
    cases src with
    | none => simpa using h3
    | some n => simpa using h3
   ·intro q hq
    rcases List.mem_cons.1 hq with rfl | hq
    ·exact ⟨by show hName t % 2 = 0; unfold hName; omega, hpl, hs1, hs2⟩
    ·exact h4 q hq
   ·intro t' e' hl
    simp only [concE, lk] at hl
    have hone : ∀ q, (hName t, q) ∈ (hName t, ((⟨appTy b e, d⟩ : Dyn), g, src)) :: es → (q = ((⟨appTy b e, d⟩ : Dyn), g, src)) ∨ (hName t, q) ∈ es := by
     intro q hq
     rcases List.mem_cons.1 hq with hq | hq
     ·exact .inl (Prod.mk.inj hq).2
     ·exact .inr hq
    by_cases et : t' = t
    ·subst et
     simp only [Nat.beq_refl, cond_true, Option.some.injEq] at hl
     subst hl
     refine .inr (.inl ⟨rfl, fun q hq => ?_⟩)
     rcases hone q hq with rfl | hq
     ·exact ⟨hc, (appTy_sz b e).1, (appTy_sz b e).2, hag⟩
     ·exact absurd (by rw [← h2]; exact List.mem_map.2 ⟨_, hq, rfl⟩) hn1.1
    ·rw [beq_ne et] at hl
     rcases h5 t' e' hl with h6 | ⟨h6, h7⟩ | ⟨k, h6, h7, h8⟩
     ·exact .inl h6
     ·refine .inr (.inl ⟨h6, fun q hq => ?_⟩)
      rcases List.mem_cons.1 hq with hq | hq
      ·have := (Prod.mk.inj hq).1
       unfold hName at this
       omega
      ·exact h7 q hq
     ·exact .inr (.inr ⟨k, h6, by simp [h7], h8⟩)
  split at ha
  ·rename_i n
   split at ha
   ·rename_i hev
    obtain ⟨d, hd, ha⟩ := bind_some ha
    obtain ⟨f, hf, ha⟩ := bind_some ha
    obtain ⟨z, hz, rfl⟩ := Option.map_eq_some_iff.1 ha
    have hd : lk n st.pl = some d := hd
    have hev := h.env t _ he
    simp only [EVR] at hev
    obtain ⟨d1, o1, u1, hd1, ho1, hvc, hva⟩ := hev
    have hd1 : lk n st.pl = some d1 := hd1
    rw [hd] at hd1
    obtain rfl := Option.some.inj hd1
    simp only [offP, Option.some.injEq, Prod.mk.injEq] at ho1
    obtain ⟨rfl, rfl⟩ := ho1
    obtain ⟨hR, hA⟩ := h.pl n d hd
    have hR2 := cv_rel d.ty (appTy b e) f hf d.val _ _ hR
    have hl1 := Rel_length w B _ _ _ _ hR
    have hl2 := Rel_length w B _ _ _ _ hR2
    refine step (f d.val) z (G n) (some n) hz rfl ⟨hR2, hA⟩ (fun m hm => by obtain rfl := Option.some.inj hm; exact ⟨rfl, d, hd⟩) (by simp) ?_ ?_ (by simp [ownSrcs, he])
    ·rw [hvc, List.drop_zero, ← hl1, List.take_length]
    ·rw [hva, cv_agg d.ty (appTy b e) f hf, (appTy_sz b e).2]
   ·cases ha
  ·rename_i d
   split at ha
   ·rename_i hp
    obtain ⟨f, hf, ha⟩ := bind_some ha
    obtain ⟨z, hz, rfl⟩ := Option.map_eq_some_iff.1 ha
    have hev := h.env t _ he
    simp only [EVR] at hev
    refine step (f d.val) z ⟨none, (tv a t).cells.toList, []⟩ none hz rfl ⟨cv_rel d.ty (appTy b e) f hf d.val _ _ hev.2.1, trivial⟩ (by simp) (fun _ => rfl) rfl ?_ (by simp [ownSrcs, he])
    rw [hev.2.2, cv_agg d.ty (appTy b e) f hf, (appTy_sz b e).2]
   ·cases ha
  ·cases ha

theorem absP_ok (h : Inv X st a w B G) : ∀ (l : List (Nat × Ty)) (x : PlS l), absP (look st) l = some x → ∃ es : List (Nat × Ent1), concP l x = es.map (fun q => (q.1, q.2.1)) ∧ es.map (·.1) = l.map (·.1) ∧ es.filterMap (fun q => q.2.2.2) = l.map (·.1) ∧
  ∀ q ∈ es, q.2.2.2 = some q.1 ∧ q.2.2.1 = G q.1 ∧ PlR w B (G q.1) q.2.1 ∧ ∃ d, lk q.1 st.pl = some d ∧ sk q.2.1.ty = sk d.ty
 | [], x, _ => ⟨[], rfl, rfl, rfl, by simp⟩
 | (n, τ) :: r, x, ha => by
  simp only [absP] at ha
  obtain ⟨d, hd, ha⟩ := bind_some ha
  split at ha
  ·rename_i hsk
   obtain ⟨f, hf, ha⟩ := bind_some ha
   obtain ⟨z, hz, rfl⟩ := Option.map_eq_some_iff.1 ha
   obtain ⟨es, h1, h2, h3, h4⟩ := absP_ok h r z hz
   have hd : lk n st.pl = some d := hd
   refine ⟨(n, (⟨τ, f d.val⟩, G n, some n)) :: es, by simp [concP, h1], by simp [h2], by simp [h3], ?_⟩
   intro q hq
   rcases List.mem_cons.1 hq with rfl | hq
   ·obtain ⟨hR, hA⟩ := h.pl n d hd
    exact ⟨rfl, rfl, ⟨cv_rel d.ty τ f hf d.val _ _ hR, hA⟩, d, hd, hsk.symm⟩
   ·exact h4 q hq
  ·cases ha

theorem locsIn_ok {names : List Nat} : ∀ {l : List (Nat × SK)}, locsIn names l = true → ∀ t n p, (t, SK.loc n p) ∈ l → n ∈ names
 | [], _, _, _, _, h => by cases h
 | (s, .loc m q) :: l, hk, t, n, p, h => by
  simp only [locsIn, Bool.and_eq_true] at hk
  rcases List.mem_cons.1 h with h | h
  ·simp only [Prod.mk.injEq, SK.loc.injEq] at h
   obtain ⟨_, rfl, _⟩ := h
   obtain ⟨x, hx, he⟩ := List.any_eq_true.1 hk.1
   rw [Nat.eq_of_beq_eq_true he]; exact hx
  ·exact locsIn_ok hk.2 t n p h
 | (s, .dat τ) :: l, hk, t, n, p, h => by
  rcases List.mem_cons.1 h with h | h
  ·simp at h
  ·exact locsIn_ok (l := l) hk t n p h
 | (s, .lies g d) :: l, hk, t, n, p, h => by
  simp only [locsIn, Bool.and_eq_true] at hk
  rcases List.mem_cons.1 h with h | h
  ·simp at h
  ·exact locsIn_ok hk.2 t n p h
 | (s, .fn g d) :: l, hk, t, n, p, h => by
  simp only [locsIn, Bool.and_eq_true] at hk
  rcases List.mem_cons.1 h with h | h
  ·simp at h
  ·exact locsIn_ok hk.2 t n p h
 | (s, .own e b) :: l, hk, t, n, p, h => by
  rcases List.mem_cons.1 h with h | h
  ·simp at h
  ·exact locsIn_ok (l := l) hk t n p h

theorem locsFn_ok {names : List Nat} : ∀ {l : List (Nat × SK)}, locsIn names l = true → ∀ t f c, (t, SK.fn f c) ∈ l → ∀ q ∈ c, q.1 ∈ names
 | [], _, _, _, _, h => by cases h
 | (s, .fn g d) :: l, hk, t, f, c, h => by
  simp only [locsIn, Bool.and_eq_true] at hk
  rcases List.mem_cons.1 h with h | h
  ·simp only [Prod.mk.injEq, SK.fn.injEq] at h
   obtain ⟨_, _, rfl⟩ := h
   intro q hq
   obtain ⟨x, hx, he⟩ := List.any_eq_true.1 (List.all_eq_true.1 hk.1 q hq)
   rw [Nat.eq_of_beq_eq_true he]; exact hx
  ·exact locsFn_ok hk.2 t f c h
 | (s, .loc m q) :: l, hk, t, f, c, h => by
  simp only [locsIn, Bool.and_eq_true] at hk
  rcases List.mem_cons.1 h with h | h
  ·simp at h
  ·exact locsFn_ok hk.2 t f c h
 | (s, .dat τ) :: l, hk, t, f, c, h => by
  rcases List.mem_cons.1 h with h | h
  ·simp at h
  ·exact locsFn_ok (l := l) hk t f c h
 | (s, .lies g d) :: l, hk, t, f, c, h => by
  simp only [locsIn, Bool.and_eq_true] at hk
  rcases List.mem_cons.1 h with h | h
  ·simp at h
  ·exact locsFn_ok hk.2 t f c h
 | (s, .own e b) :: l, hk, t, f, c, h => by
  rcases List.mem_cons.1 h with h | h
  ·simp at h
  ·exact locsFn_ok (l := l) hk t f c h

theorem liesIn_ok {names : List Nat} : ∀ {l : List (Nat × SK)}, locsIn names l = true → ∀ t n p, (t, SK.lies n p) ∈ l → n ∈ names ∧ p ≠ []
 | [], _, _, _, _, h => by cases h
 | (s, .lies m q) :: l, hk, t, n, p, h => by
  simp only [locsIn, Bool.and_eq_true, Bool.not_eq_true'] at hk
  rcases List.mem_cons.1 h with h | h
  ·simp only [Prod.mk.injEq, SK.lies.injEq] at h
   obtain ⟨_, rfl, rfl⟩ := h
   obtain ⟨x, hx, he⟩ := List.any_eq_true.1 hk.1.1
   rw [Nat.eq_of_beq_eq_true he]
   exact ⟨hx, fun e => by rw [e] at hk; exact absurd hk.1.2 (by simp)⟩
  ·exact liesIn_ok hk.2 t n p h
 | (s, .loc m q) :: l, hk, t, n, p, h => by
  simp only [locsIn, Bool.and_eq_true] at hk
  rcases List.mem_cons.1 h with h | h
  ·simp at h
  ·exact liesIn_ok hk.2 t n p h
 | (s, .dat τ) :: l, hk, t, n, p, h => by
  rcases List.mem_cons.1 h with h | h
  ·simp at h
  ·exact liesIn_ok (l := l) hk t n p h
 | (s, .fn g d) :: l, hk, t, n, p, h => by
  simp only [locsIn, Bool.and_eq_true] at hk
  rcases List.mem_cons.1 h with h | h
  ·simp at h
  ·exact liesIn_ok hk.2 t n p h
 | (s, .own e b) :: l, hk, t, n, p, h => by
  rcases List.mem_cons.1 h with h | h
  ·simp at h
  ·exact liesIn_ok (l := l) hk t n p h

theorem upTo_mem : ∀ (n k : Nat), k < n → k ∈ upTo n
 | n + 1, k, h => by
  simp only [upTo, List.mem_cons]
  rcases Nat.lt_succ_iff_lt_or_eq.1 h with h | h
  ·exact .inr (upTo_mem n k h)
  ·exact .inl h

theorem own_in {t : Nat} {names : List Nat} : ∀ (l : List (Nat × SK)) (x : ShS l), locsIn names l = true → lk t (concE l x) = some (.at_ (hName t) []) → hName t ∈ ownNames l := by
 intro l
 induction l with
 | nil => intro x _ h; cases h
 | cons s l ih =>
  intro x hl hx
  obtain ⟨s1, s2⟩ := s
  have hl2 : locsIn names l = true := by
   cases s2 <;> simp only [locsIn, Bool.and_eq_true] at hl
   ·exact hl
   ·exact hl
   ·exact hl.2
   ·exact hl.2
   ·exact hl.2
  have ih := fun x h => ih x hl2 h
  by_cases e1 : t = s1
  ·subst e1
   cases s2 with
   | dat τ => simp [concE, lk] at hx
   | loc n p => simp [concE, lk] at hx
   | fn f c => simp [concE, lk] at hx
   | lies n p =>
    simp [concE, lk] at hx
    exact absurd hx.2 (liesIn_ok hl t n p (by simp)).2
   | own e b => simp [ownNames]
  ·cases s2 with
   | dat τ => simp only [concE, lk, beq_ne e1, cond_false] at hx; simpa [ownNames] using ih x.2 hx
   | loc n p => simp only [concE, lk, beq_ne e1, cond_false] at hx; simpa [ownNames] using ih x hx
   | fn f c => simp only [concE, lk, beq_ne e1, cond_false] at hx; simpa [ownNames] using ih x hx
   | lies n p => simp only [concE, lk, beq_ne e1, cond_false] at hx; simpa [ownNames] using ih x hx
   | own e b => simp only [concE, lk, beq_ne e1, cond_false] at hx; simp [ownNames, ih x.2 hx]

theorem abs_ok (h : Inv X st a w B G) {nob : Nat} (hnob : ∀ k, nob ≤ k → X.oa k = none) {sh : Shape} {x : Sg sh} (ha : abs nob sh st = some x) : ∃ G', Inv X (conc sh x) a w B G' := by
 unfold abs at ha
 split at ha
 ·rename_i hk
  simp only [Bool.and_eq_true] at hk
  obtain ⟨hok, hsrc⟩ := hk
  unfold Shape.ok at hok
  simp only [Bool.and_eq_true] at hok
  obtain ⟨⟨hnd, hloc⟩, hobj⟩ := hok
  have hnd := nodupN_ok _ hnd
  have hsrc := nodupN_ok _ hsrc
  obtain ⟨x1, h1, ha⟩ := bind_some ha
  obtain ⟨x2, h2, rfl⟩ := Option.map_eq_some_iff.1 ha
  obtain ⟨es1, a1, a2, a3, a4, a5⟩ := absS_ok h sh.slots x1 (List.nodup_append.1 hnd).1 h1
  obtain ⟨es2, b1, b2, b3, b4⟩ := absP_ok h sh.pls x2 h2
  let es := es1 ++ es2
  have hpl : (conc sh (x1, x2)).pl = es.map (fun q => (q.1, q.2.1)) := by
   show concO sh.slots x1 ++ concP sh.pls x2 = _
   rw [a1, b1, ← List.map_append]
  have hes : (es.map (·.1)).Nodup := by
   show ((es1 ++ es2).map (·.1)).Nodup
   rw [List.map_append, a2, b2]; exact hnd
  have hsrcs : (es.filterMap (fun q => q.2.2.2)).Nodup := by
   show ((es1 ++ es2).filterMap _).Nodup
   rw [List.filterMap_append, a3, b3]; exact hsrc
  let G' : Nat → PG := fun m => match lk m es with | some q => q.2.1 | none => ⟨none, [], []⟩
  have hlk : ∀ m, lk m (conc sh (x1, x2)).pl = (lk m es).map fun q => q.1 := by
   intro m
   rw [hpl]
   exact lk_map (fun q : Nat × Ent1 => q.2.1) m es
  have hG : ∀ m q, lk m es = some q → G' m = q.2.1 := fun m q hq => by show (match lk m es with | some q => q.2.1 | none => _) = _; rw [hq]

  have hent : ∀ m q, lk m es = some q → PlR w B q.2.1 q.1 ∧ (∀ n, q.2.2 = some n → q.2.1 = G n ∧ ∃ d, lk n st.pl = some d) ∧ (q.2.2 = none → q.2.1.blocks = []) := by
   intro m q hq
   have hm := lk_mem' hq
   rcases List.mem_append.1 hm with hm | hm
   ·obtain ⟨_, k1, k2, k3⟩ := a4 _ hm
    exact ⟨k1, k2, k3⟩
   ·obtain ⟨k1, k2, k3, d, k4, k5⟩ := b4 _ hm
    have k1 : q.2.2 = some m := k1
    have k2 : q.2.1 = G m := k2
    refine ⟨by rw [k2]; exact k3, fun n hn => ?_, fun hn => by rw [k1] at hn; cases hn⟩
    rw [k1] at hn
    obtain rfl := Option.some.inj hn
    exact ⟨k2, d, k4⟩
  have hsep : ∀ m q, lk m es = some q → q.2.1.blocks.Nodup ∧ ∀ b ∈ q.2.1.blocks, ¬ B b ∧ (b < X.w0.heap.size → b ∈ X.ob) := by
   intro m q hq
   obtain ⟨_, k2, k3⟩ := hent m q hq
   cases hs : q.2.2 with
   | none => rw [k3 hs]; simp
   | some n =>
    obtain ⟨e, d, hd⟩ := k2 n hs
    rw [e]; exact h.sep n d hd
  have hodd : ∀ k q, lk (objName k) es = some q → q.2.2 = some (objName k) ∧ q.2.1 = G (objName k) ∧ ∃ d, lk (objName k) st.pl = some d ∧ sk q.1.ty = sk d.ty := by
   intro k q hq
   rcases List.mem_append.1 (lk_mem' hq) with hm | hm
   ·have := (a4 _ hm).1
    simp only at this
    unfold objName at this
    omega
   ·obtain ⟨k1, k2, k3, d, k4, k5⟩ := b4 _ hm
    exact ⟨k1, k2, d, k4, k5⟩
  have hlocE : ∀ (n : Nat) (p : Path) (v : Value), n ∈ sh.pls.map (·.1) → EVR (tv a) w B G (look st) (.loc n p) v → EVR (tv a) w B G' (look (conc sh (x1, x2))) (.loc n p) v := by
   intro n p v hnm hv
   have hin : n ∈ es.map (·.1) := by
    show n ∈ (es1 ++ es2).map (·.1)
    rw [List.map_append, b2]
    exact List.mem_append.2 (.inr hnm)
   obtain ⟨q, hql⟩ := lk_some_names hin
   have hmem : (n, q) ∈ es2 := by
    rcases List.mem_append.1 (lk_mem' hql) with hm | hm
    ·exfalso
     exact (List.nodup_append.1 hnd).2.2 n (by rw [← a2]; exact List.mem_map.2 ⟨_, hm, rfl⟩) n hnm rfl
    ·exact hm
   obtain ⟨k1, k2, k3, d, k4, k5⟩ := b4 _ hmem
   simp only [EVR] at hv ⊢
   obtain ⟨d1, o, u, b, off, hd1, ho, hg, hvv⟩ := hv
   have hd1 : lk n st.pl = some d1 := hd1
   have k4 : lk n st.pl = some d := k4
   rw [k4] at hd1
   obtain rfl := Option.some.inj hd1
   obtain ⟨u', ho', _⟩ := offP_alike ho k5
   refine ⟨q.1, o, u', b, off, by show lk _ _ = _; rw [hlk, hql]; rfl, ho', ?_, hvv⟩
   rw [hG _ q hql]
   have k2 : q.2.1 = G n := k2
   rw [k2]; exact hg
  have hliesE : ∀ (n : Nat) (p : Path) (v : Value), n ∈ sh.pls.map (·.1) → EVR (tv a) w B G (look st) (.at_ n p) v → EVR (tv a) w B G' (look (conc sh (x1, x2))) (.at_ n p) v := by
   intro n p v hnm hv
   have hin : n ∈ es.map (·.1) := by
    show n ∈ (es1 ++ es2).map (·.1)
    rw [List.map_append, b2]
    exact List.mem_append.2 (.inr hnm)
   obtain ⟨q, hql⟩ := lk_some_names hin
   have hmem : (n, q) ∈ es2 := by
    rcases List.mem_append.1 (lk_mem' hql) with hm | hm
    ·exfalso
     exact (List.nodup_append.1 hnd).2.2 n (by rw [← a2]; exact List.mem_map.2 ⟨_, hm, rfl⟩) n hnm rfl
    ·exact hm
   obtain ⟨k1, k2, k3, d, k4, k5⟩ := b4 _ hmem
   simp only [EVR] at hv ⊢
   obtain ⟨d1, o, u, hd1, ho, hg, hvv⟩ := hv
   have hd1 : lk n st.pl = some d1 := hd1
   have k4 : lk n st.pl = some d := k4
   rw [k4] at hd1
   obtain rfl := Option.some.inj hd1
   obtain ⟨u', ho', hu⟩ := offP_alike ho k5
   refine ⟨q.1, o, u', by show lk _ _ = _; rw [hlk, hql]; rfl, ho', ?_, by rw [hvv, agg_of_sk hu]⟩
   rw [hG _ q hql]
   have k2 : q.2.1 = G n := k2
   rw [k2, size_of_sk hu]; exact hg
  refine ⟨G', h.defers, h.nt, h.bsz, h.b0, h.bold, ?_, ?_, ?_, ?_, h.size, h.old, h.rest, ?_, h.oaLt, ?_, h.objR⟩
  ·intro t e he
   rcases a5 t e he with ⟨d, rfl, hp, hv⟩ | ⟨rfl, hq⟩ | ⟨k, hk, hm, hv⟩
   ·simp only [EVR]; exact ⟨hp, hv⟩
   ·have hin : hName t ∈ es.map (·.1) := by
     show hName t ∈ (es1 ++ es2).map (·.1)
     rw [List.map_append, a2]
     exact List.mem_append.2 (.inl (own_in _ _ hloc he))
    obtain ⟨q, hql⟩ := lk_some_names hin
    have hmem : (hName t, q) ∈ es1 := by
     rcases List.mem_append.1 (lk_mem' hql) with hm | hm
     ·exact hm
     ·exfalso
      have h1' : hName t ∈ ownNames sh.slots := own_in _ _ hloc he
      exact (List.nodup_append.1 hnd).2.2 _ h1' _ (by rw [← b2]; exact List.mem_map.2 ⟨_, hm, rfl⟩) rfl
    obtain ⟨k1, k2, k3, k4⟩ := hq q hmem
    simp only [EVR]
    refine ⟨q.1, 0, q.1.ty, by show lk _ _ = _; rw [hlk, hql]; rfl, rfl, ?_, by rw [k4, k3]⟩
    rw [hG _ q hql, k1, List.drop_zero, k2]
    have hl := Rel_length w B _ _ _ _ (hent _ q hql).1.1
    rw [k2, k1] at hl
    rw [← hl, List.take_length]
   ·cases k with
    | loc n p =>
     obtain rfl := Option.some.inj hk
     exact hlocE n p _ (locsIn_ok hloc t n p hm) hv
    | fn f c =>
     obtain rfl := Option.some.inj hk
     have hin := locsFn_ok hloc t f c hm
     simp only [EVR] at hv ⊢
     obtain ⟨vs, hvv, hvs⟩ := hv
     refine ⟨vs, hvv, ?_⟩
     have key : ∀ (c : List (Nat × Path)) (vs : List Value), (∀ q ∈ c, q.1 ∈ sh.pls.map (·.1)) → EVRL (tv a) w B G (look st) (capsOf c) vs → EVRL (tv a) w B G' (look (conc sh (x1, x2))) (capsOf c) vs := by
      intro c
      induction c with
      | nil => intro vs _ h; exact h
      | cons q c ih =>
       intro vs hin h
       simp only [capsOf, List.map_cons, EVRL] at h ⊢
       obtain ⟨v, r, h1, h2, h3⟩ := h
       exact ⟨v, r, h1, hlocE _ _ _ (hin q (by simp)) h2, ih r (fun q hq => hin q (by simp [hq])) h3⟩
     exact key c _ hin hvs
    | lies n p =>
     obtain rfl := Option.some.inj hk
     exact hliesE n p _ (liesIn_ok hloc t n p hm).1 hv
    | dat _ => cases hk
    | own _ _ => cases hk
  ·intro m d hd
   rw [hlk] at hd
   obtain ⟨q, hq, rfl⟩ := Option.map_eq_some_iff.1 hd
   rw [hG m q hq]; exact (hent m q hq).1
  ·intro m d hd
   rw [hlk] at hd
   obtain ⟨q, hq, rfl⟩ := Option.map_eq_some_iff.1 hd
   rw [hG m q hq]; exact hsep m q hq
  ·intro m m' d d' hd hd' hne b hb hb'
   rw [hlk] at hd hd'
   obtain ⟨q, hq, rfl⟩ := Option.map_eq_some_iff.1 hd
   obtain ⟨q', hq', rfl⟩ := Option.map_eq_some_iff.1 hd'
   rw [hG m q hq] at hb
   rw [hG m' q' hq'] at hb'
   obtain ⟨_, k2, k3⟩ := hent m q hq
   obtain ⟨_, k2', k3'⟩ := hent m' q' hq'
   cases hs : q.2.2 with
   | none => rw [k3 hs] at hb; cases hb
   | some n =>
    cases hs' : q'.2.2 with
    | none => rw [k3' hs'] at hb'; cases hb'
    | some n' =>
     obtain ⟨e1, d1, hd1⟩ := k2 n hs
     obtain ⟨e2, d2, hd2⟩ := k2' n' hs'
     have hnn : n ≠ n' := by
      intro e
      subst e
      exact src_inj hsrcs (lk_mem' hq) (lk_mem' hq') (fun e => hne (Prod.mk.inj e).1) hs hs'
     rw [e1] at hb; rw [e2] at hb'
     exact h.apart n n' d1 d2 hd1 hd2 hnn b hb hb'
  ·intro k d hd
   rw [hlk] at hd
   obtain ⟨q, hq, rfl⟩ := Option.map_eq_some_iff.1 hd
   obtain ⟨k1, k2, d0, k3, k4⟩ := hodd k q hq
   obtain ⟨b, o, s, m1, m2, m3⟩ := h.obj k d0 k3
   exact ⟨b, o, s, m1, by rw [hG _ q hq, k2]; exact m2, by rw [size_of_sk k4]; exact m3⟩
  ·intro k b o s ho
   have hkn : k < nob := by
    rcases Nat.lt_or_ge k nob with h | h
    ·exact h
    ·rw [hnob k h] at ho; cases ho
   have := List.all_eq_true.1 hobj k (upTo_mem nob k hkn)
   obtain ⟨n, hn, he⟩ := List.any_eq_true.1 this
   have he := Nat.eq_of_beq_eq_true he
   have hin : objName k ∈ es.map (·.1) := by
    show objName k ∈ (es1 ++ es2).map (·.1)
    rw [List.map_append, b2, he]
    exact List.mem_append.2 (.inr hn)
   obtain ⟨q, hq⟩ := lk_some_names hin
   exact ⟨q.1, by rw [hlk, hq]; rfl⟩
 ·cases ha

end
end
end Go.Pv

namespace Go.Pv
noncomputable section
universe u v

section
variable {X : Cx} {st : St} {a : Act} {w : World} {B : Nat → Prop} {G : Nat → PG}

theorem boolE_ok (h : Inv X st a w B G) {c : Operand} {b : Bool} (hb : boolE st c = some b) : a.eval c = .bool b := by
 unfold boolE at hb
 obtain ⟨e, he, hb⟩ := bind_some hb
 have hv := Eop_ok h [] (by simp) c e he
 split at hb
 ·obtain rfl := Option.some.inj hb
  simp only [EVR] at hv
  exact hv
 ·obtain ⟨d, hd, hb⟩ := bind_some hb
  split at hb
  ·obtain rfl := Option.some.inj hb
   exact bool_ok h hv hd
  ·cases hb

theorem sharp_ok (h : Inv X st a w B G) {c : Operand} {b : Bool} (hb : a.eval c = .bool b) (sh : Bool) : Inv X (sharp sh st c b) a w B G := by
 unfold sharp
 split
 ·exact h
 ·split
  ·rename_i t
   split
   ·rename_i v he
    have hv := h.env t _ he
    exact { h with
     env := by
      intro t' e he'
      have hq : lk t' (Pv.put t (.val ⟨.bool, b⟩) st.env) = some e := he'
      rw [lk_put] at hq
      split at hq
      ·rename_i e'
       subst e'
       obtain rfl := Option.some.inj hq
       have hb : tv a t' = .bool b := hb
       rw [hb]
       exact ⟨rfl, ⟨rfl, rfl⟩, rfl⟩
      ·exact h.env t' e hq }
   ·exact h
  ·exact h

theorem anyE_ok (h : Inv X st a w B G) {c : Operand} (hb : anyE st c = true) : ∃ b, a.eval c = .bool b := by
 unfold anyE at hb
 split at hb
 ·rename_i he
  have := Eop_ok h [] (by simp) c _ he
  simpa only [EVR] using this
 ·cases hb

structure Ks {α : Type} (X : Cx) (Q : Exit → Act → World → Prop) (kn : St → Option α) (kx : List (Nat × (St → Option α))) (kr : St → Option α) (r : α) : Prop where
 n : ∀ st a w B G, Inv X st a w B G → kn st = some r → Q .normal a w
 x : ∀ id k, lk id kx = some k → ∀ st a w B G, Inv X st a w B G → k st = some r → Q (.exit id) a w
 r : ∀ st a w B G, Inv X st a w B G → kr st = some r → Q .ret a w

theorem evalCode_ok {C : Cfg} (hP : X.P = C.P) (hnt : X.nt = C.nt) (hob : ∀ k, C.nob ≤ k → X.oa k = none) (hΓ : ∀ f sem, C.Γ f = some sem → ContractD X.dr C.P f sem) :
  ∀ (c : Code) {α : Type} (cur : Nat) (st : St) (kn : St → Option α) (kx : List (Nat × (St → Option α))) (kr : St → Option α) (r : α) (Q : Exit → Act → World → Prop) (a : Act) (w : World) (B : Nat → Prop) (G : Nat → PG),
   Inv X st a w B G → Ks X Q kn kx kr r → evalCode C c cur st kn kx kr = some r → c.wp C.P Q a w
 | .skip, α, cur, st, kn, kx, kr, r, Q, a, w, B, G, h, hk, he => wp_skip (hk.n st a w B G h he)
 | .label l, α, cur, st, kn, kx, kr, r, Q, a, w, B, G, h, hk, he => wp_label (hk.n st a w B G h he)
 | .ret, α, cur, st, kn, kx, kr, r, Q, a, w, B, G, h, hk, he => wp_ret (hk.r st a w B G h he)
 | .exit id, α, cur, st, kn, kx, kr, r, Q, a, w, B, G, h, hk, he => by
  simp only [evalCode] at he
  obtain ⟨k, hx, he⟩ := bind_some he
  exact wp_exit (hk.x id k hx st a w B G h he)
 | .region id ops d, α, cur, st, kn, kx, kr, r, Q, a, w, B, G, h, hk, he => by
  cases d with
  | true =>
   simp only [evalCode, cond_true] at he
   cases hm : C.P.follows .mixedOrders with
   | false => rw [hm] at he; cases he
   | true =>
    rw [hm] at he
    simp only [cond_true] at he
    rw [← hP]
    exact draw_ok (by rw [hP]; exact hm) (by rw [hP]; exact hΓ) (fun st a w B G h he => hk.n st a w B G h he) h (by rw [hP, hnt]; exact he)
  | false =>
   simp only [evalCode, cond_false, evalRegion] at he
   refine wp_region_list ?_
   rw [← hP]
   exact evalOps_ok (by rw [hP]; exact hΓ) (fun st a w B G h he => hk.n st a w B G h he) ops.toList st a w B G h (by rw [hP, hnt]; exact he)
 | .seq x y, α, cur, st, kn, kx, kr, r, Q, a, w, B, G, h, hk, he => by
  simp only [evalCode] at he
  refine wp_seq (evalCode_ok hP hnt hob hΓ x cur st _ kx kr r _ a w B G h ⟨?_, ?_, ?_⟩ he)
  ·intro st' a' w' B' G' h' he'
   exact evalCode_ok hP hnt hob hΓ y cur st' kn kx kr r Q a' w' B' G' h' hk he'
  ·intro id k hx st' a' w' B' G' h' he'
   exact hk.x id k hx st' a' w' B' G' h' he'
  ·intro st' a' w' B' G' h' he'
   exact hk.r st' a' w' B' G' h' he'
 | .cond c x y, α, cur, st, kn, kx, kr, r, Q, a, w, B, G, h, hk, he => by
  simp only [evalCode] at he
  cases ha : anyE st c with
  | true =>
   rw [ha] at he
   simp only [cond_true, amb] at he
   split at he
   ·rename_i hxy
    obtain ⟨b, hb⟩ := anyE_ok h ha
    refine wp_cond hb ?_
    cases b with
    | true => exact evalCode_ok hP hnt hob hΓ x cur st kn kx kr r Q a w B G h hk he
    | false => exact evalCode_ok hP hnt hob hΓ y cur st kn kx kr r Q a w B G h hk (hxy ▸ he)
   ·cases he
  | false =>
  rw [ha] at he
  simp only [cond_false] at he
  obtain ⟨b, hb, he⟩ := bind_some he
  refine wp_cond (boolE_ok h hb) ?_
  cases b with
  | true => exact evalCode_ok hP hnt hob hΓ x cur _ kn kx kr r Q a w B G (sharp_ok h (boolE_ok h hb) _) hk he
  | false => exact evalCode_ok hP hnt hob hΓ y cur _ kn kx kr r Q a w B G (sharp_ok h (boolE_ok h hb) _) hk he
 | .block id x, α, cur, st, kn, kx, kr, r, Q, a, w, B, G, h, hk, he => by
  simp only [evalCode] at he
  refine wp_block (evalCode_ok hP hnt hob hΓ x id st kn ((id, kn) :: kx) kr r _ a w B G h ⟨?_, ?_, ?_⟩ he)
  ·intro st' a' w' B' G' h' he'
   exact hk.n st' a' w' B' G' h' he'
  ·intro id' k hx st' a' w' B' G' h' he'
   simp only [lk] at hx
   show if id' = id then Q .normal a' w' else Q (.exit id') a' w'
   by_cases e : id' = id
   ·subst e
    simp only [Nat.beq_refl, cond_true, Option.some.injEq] at hx
    subst hx
    rw [if_pos rfl]
    exact hk.n st' a' w' B' G' h' he'
   ·rw [beq_ne e] at hx
    rw [if_neg e]
    exact hk.x id' k hx st' a' w' B' G' h' he'
  ·intro st' a' w' B' G' h' he'
   exact hk.r st' a' w' B' G' h' he'
 | .scope x, α, cur, st, kn, kx, kr, r, Q, a, w, B, G, h, hk, he => by
  simp only [evalCode] at he
  exact wp_scope_straight (evalCode_ok hP hnt hob hΓ x cur st kn kx kr r _ a w B G h ⟨fun st' a' w' B' G' h' he' => hk.n st' a' w' B' G' h' he', fun id k hx st' a' w' B' G' h' he' => hk.x id k hx st' a' w' B' G' h' he', fun st' a' w' B' G' h' he' => hk.r st' a' w' B' G' h' he'⟩ he)
 | .loop x, α, cur, st, kn, kx, kr, r, Q, a, w, B, G, h, hk, he => by
  simp only [evalCode] at he
  obtain ⟨sh, hsh, he⟩ := bind_some he
  obtain ⟨y, hy, he⟩ := bind_some he
  obtain ⟨n, hn⟩ := loopR_some he
  obtain ⟨G1, h1⟩ := abs_ok h hob hy
  refine wp_loop_rounds n ?_
  clear he hy h
  induction n generalizing y a w B G1 with
  | zero => cases hn
  | succ n ih =>
   simp only [iter] at hn
   rw [rounds_succ]
   split at hn
   ·cases hn
   ·rename_i r' hr
    obtain rfl := Option.some.inj hn
    refine evalCode_ok hP hnt hob hΓ x cur (conc sh y) _ _ _ (Sum.inr r') _ a w B G1 h1 ⟨?_, ?_, ?_⟩ hr
    ·intro st' a' w' B' G' h' he'
     obtain ⟨z, _, hz⟩ := Option.map_eq_some_iff.1 he'
     cases hz
    ·intro id k hx st' a' w' B' G' h' he'
     rw [lk_map (fun q : Nat × (St → Option α) => fun s => (q.2 s).map Sum.inr) id kx] at hx
     obtain ⟨k0, hk0, rfl⟩ := Option.map_eq_some_iff.1 hx
     obtain ⟨z, hz, hzz⟩ := Option.map_eq_some_iff.1 he'
     obtain rfl := Sum.inr.inj hzz
     exact hk.x id k0 hk0 st' a' w' B' G' h' hz
    ·intro st' a' w' B' G' h' he'
     obtain ⟨z, hz, hzz⟩ := Option.map_eq_some_iff.1 he'
     obtain rfl := Sum.inr.inj hzz
     exact hk.r st' a' w' B' G' h' hz
   ·rename_i y' hr
    refine evalCode_ok hP hnt hob hΓ x cur (conc sh y) _ _ _ (Sum.inl y') _ a w B G1 h1 ⟨?_, ?_, ?_⟩ hr
    ·intro st' a' w' B' G' h' he'
     obtain ⟨z, hz, hzz⟩ := Option.map_eq_some_iff.1 he'
     obtain rfl := Sum.inl.inj hzz
     obtain ⟨G2, h2⟩ := abs_ok h' hob hz
     exact ih a' w' B' z hn G2 h2
    ·intro id k hx st' a' w' B' G' h' he'
     rw [lk_map (fun q : Nat × (St → Option α) => fun s => (q.2 s).map Sum.inr) id kx] at hx
     obtain ⟨k0, hk0, rfl⟩ := Option.map_eq_some_iff.1 hx
     obtain ⟨z, hz, hzz⟩ := Option.map_eq_some_iff.1 he'
     cases hzz
    ·intro st' a' w' B' G' h' he'
     obtain ⟨z, hz, hzz⟩ := Option.map_eq_some_iff.1 he'
     cases hzz
 | .rangeFunc _ _ _ _, α, cur, st, kn, kx, kr, r, Q, a, w, B, G, h, hk, he => by simp [evalCode] at he
 | .goto _, α, cur, st, kn, kx, kr, r, Q, a, w, B, G, h, hk, he => by simp [evalCode] at he
 | .refuse _, α, cur, st, kn, kx, kr, r, Q, a, w, B, G, h, hk, he => by simp [evalCode] at he

theorem take_env {e : EV} {y : ODyn} {U : Upds} (h : e.take (look st) = some (y, U)) : (applyU U st).env = st.env := by
 cases e with
 | at_ n p =>
  simp only [EV.take] at h
  obtain ⟨d, _, h⟩ := bind_some h
  obtain ⟨y0, _, h⟩ := bind_some h
  split at h
  ·simp only [Option.some.injEq, Prod.mk.injEq] at h
   obtain ⟨_, rfl⟩ := h
   rfl
  ·split at h
   ·obtain ⟨d', _, h⟩ := bind_some h
    split at h
    ·simp only [Option.some.injEq, Prod.mk.injEq] at h
     obtain ⟨_, rfl⟩ := h
     rfl
    ·cases h
   ·cases h
 | val d => simp only [EV.take, Option.some.injEq, Prod.mk.injEq] at h; obtain ⟨_, rfl⟩ := h; rfl
 | alias _ _ d => simp only [EV.take, Option.some.injEq, Prod.mk.injEq] at h; obtain ⟨_, rfl⟩ := h; rfl
 | clip e xs => simp only [EV.take, Option.some.injEq, Prod.mk.injEq] at h; obtain ⟨_, rfl⟩ := h; rfl
 | _ => cases h

theorem F_sub (g : PG) : g.F.Sublist g.blocks := by
 unfold PG.blocks
 split
 ·exact List.sublist_cons_self _ _
 ·exact List.Sublist.refl _

theorem finR_ok (hsz : X.w0.heap.size ≤ w.heap.size) : ∀ (ts : List Nat) (rs : List RK) (st : St) (B : Nat → Prop) (G : Nat → PG) (x : ResT rs) (sf : St), Inv X st a w B G → finR ts rs st = some (x, sf) → ∃ B' G', Inv X sf a w B' G' ∧ (∀ b, B b → B' b) ∧
  (∀ e v, EVR (tv a) w B G (look st) e v → EVR (tv a) w B' G' (look sf) e v) ∧ sf.env = st.env ∧
  ∃ gs : List (Value × PG), gs.map (·.1) = ts.map (tv a) ∧ RsRel w B' (resL rs x) gs ∧ ∃ ns : List (Option Nat), ns.filterMap id = resNames st.env ts rs ∧ gs.length = ns.length ∧
   ∀ (i : Nat) (q : Value × PG) (m : Option Nat), gs[i]? = some q → ns[i]? = some m → match m with
    | none => q.2.blocks = []
    | some n => n % 2 = 0 ∧ q.2.blocks.Sublist (G' n).blocks ∧ ∃ d, lk n sf.pl = some d
 | [], [], st, B, G, x, sf, h, he => by
  simp only [finR, Option.some.injEq, Prod.mk.injEq] at he
  obtain ⟨_, rfl⟩ := he
  exact ⟨B, G, h, fun _ h => h, fun _ _ h => h, rfl, [], rfl, rfl, [], rfl, rfl, by simp⟩
 | [], _ :: _, _, _, _, _, _, _, he => by simp [finR] at he
 | _ :: _, [], _, _, _, _, _, _, he => by simp [finR] at he
 | t :: ts, .val τ :: rs, st, B, G, x, sf, h, he => by
  simp only [finR] at he
  obtain ⟨e, hl, he⟩ := bind_some he
  obtain ⟨⟨y, U⟩, hy, he⟩ := bind_some he
  split at he
  ·rename_i ty v heq
   have heq : y = ⟨ty, some v⟩ := heq
   subst heq
   split at he
   ·rename_i hp
    obtain ⟨f, hf, he⟩ := bind_some he
    obtain ⟨⟨z, s2⟩, hz, hzz⟩ := Option.map_eq_some_iff.1 he
    simp only [Prod.mk.injEq] at hzz
    obtain ⟨rfl, rfl⟩ := hzz
    obtain ⟨B1, G1, hI1, hpu, hv1, hB1, hk1, hE1⟩ := take_ok h (h.env t e hl) hy rfl
    obtain ⟨B2, G2, hI2, hB2, hE2, henv, gs, g1, g2, ns, n1, n2, n3⟩ := finR_ok hsz ts rs (applyU U st) B1 G1 z s2 hI1 hz
    have henv1 : (applyU U st).env = st.env := take_env hy
    rw [henv1] at n1 henv
    refine ⟨B2, G2, hI2, fun b hb => hB2 b (hB1 b hb), fun e v hv => hE2 e v (hE1 e v hv), henv, (tv a t, ⟨none, [], []⟩) :: gs, by simp [g1], ?_, none :: ns, ?_, by simp [n2], ?_⟩
    ·refine ⟨_, _, gs, rfl, ⟨hp, ?_, rfl⟩, g2⟩
     have hv2 : VR w B2 ty v (tv a t) [] := hv1.same (fun _ _ => rfl) hB2 (by simp)
     exact ⟨cv_rel ty τ f hf v _ _ hv2.1, by rw [hv2.2]; exact cv_agg ty τ f hf⟩
    ·simp only [List.filterMap_cons, id, n1]
     cases rs <;> cases ts <;> simp [resNames]
    ·intro i q m hq hm
     cases i with
     | zero =>
      obtain rfl : _ = q := by simpa using hq
      obtain rfl : none = m := by simpa using hm
      rfl
     | succ i => exact n3 i q m (by simpa using hq) (by simpa using hm)
   ·cases he
  ·cases he
 | t :: ts, .own τ :: rs, st, B, G, x, sf, h, he => by
  simp only [finR] at he
  obtain ⟨e, hl, he⟩ := bind_some he
  split at he
  ·rename_i n
   split at he
   ·rename_i hev
    have hev := Nat.eq_of_beq_eq_true hev
    obtain ⟨⟨z, s2⟩, hz, he⟩ := bind_some he
    obtain ⟨d, hd, he⟩ := bind_some he
    obtain ⟨f, hf, hzz⟩ := Option.map_eq_some_iff.1 he
    simp only [Prod.mk.injEq] at hzz
    obtain ⟨rfl, rfl⟩ := hzz
    obtain ⟨B2, G2, hI2, hB2, hE2, henv, gs, g1, g2, ns, n1, n2, n3⟩ := finR_ok hsz ts rs st B G z s2 h hz
    have hv := hE2 _ _ (h.env t _ hl)
    simp only [EVR] at hv
    obtain ⟨d1, o1, u1, hd1, ho1, hvc, hva⟩ := hv
    have hd : lk n s2.pl = some d := hd
    have hd1 : lk n s2.pl = some d1 := hd1
    rw [hd] at hd1
    obtain rfl := Option.some.inj hd1
    simp only [offP, Option.some.injEq, Prod.mk.injEq] at ho1
    obtain ⟨rfl, rfl⟩ := ho1
    obtain ⟨hR, hA⟩ := hI2.pl n d hd
    have hl1 := Rel_length w B2 _ _ _ _ hR
    have hcc : (G2 n).cells = (tv a t).cells.toList := by rw [hvc, List.drop_zero, ← hl1, List.take_length]
    refine ⟨B2, G2, hI2, hB2, hE2, henv, (tv a t, ⟨none, (G2 n).cells, (G2 n).F⟩) :: gs, by simp [g1], ?_, some n :: ns, by simp [n1, resNames, hl], by simp [n2], ?_⟩
    ·refine ⟨_, _, gs, rfl, ⟨rfl, hcc, ⟨cv_rel d.ty τ f hf d.val _ _ hR, trivial⟩, by rw [hva]; exact cv_agg d.ty τ f hf⟩, g2⟩
    ·intro i q m hq hm
     cases i with
     | zero =>
      obtain rfl : _ = q := by simpa using hq
      obtain rfl : some n = m := by simpa using hm
      exact ⟨hev, F_sub (G2 n), d, hd⟩
     | succ i => exact n3 i q m (by simpa using hq) (by simpa using hm)
   ·cases he
  ·rename_i d
   obtain ⟨f, hf, he⟩ := bind_some he
   obtain ⟨⟨z, s2⟩, hz, hzz⟩ := Option.map_eq_some_iff.1 he
   simp only [Prod.mk.injEq] at hzz
   obtain ⟨rfl, rfl⟩ := hzz
   obtain ⟨B2, G2, hI2, hB2, hE2, henv, gs, g1, g2, ns, n1, n2, n3⟩ := finR_ok hsz ts rs st B G z s2 h hz
   have hv := hE2 _ _ (h.env t _ hl)
   simp only [EVR] at hv
   refine ⟨B2, G2, hI2, hB2, hE2, henv, (tv a t, ⟨none, (tv a t).cells.toList, []⟩) :: gs, by simp [g1], ?_, none :: ns, by simp [n1, resNames, hl], by simp [n2], ?_⟩
   ·exact ⟨_, _, gs, rfl, ⟨rfl, rfl, ⟨cv_rel d.ty τ f hf d.val _ _ hv.2.1, trivial⟩, by rw [hv.2.2]; exact cv_agg d.ty τ f hf⟩, g2⟩
   ·intro i q m hq hm
    cases i with
    | zero =>
     obtain rfl : _ = q := by simpa using hq
     obtain rfl : none = m := by simpa using hm
     rfl
    | succ i => exact n3 i q m (by simpa using hq) (by simpa using hm)
  ·rename_i ce xs
   obtain ⟨f, hf, he⟩ := bind_some he
   obtain ⟨⟨z, s2⟩, hz, hzz⟩ := Option.map_eq_some_iff.1 he
   simp only [Prod.mk.injEq] at hzz
   obtain ⟨rfl, rfl⟩ := hzz
   obtain ⟨B2, G2, hI2, hB2, hE2, henv, gs, g1, g2, ns, n1, n2, n3⟩ := finR_ok hsz ts rs st B G z s2 h hz
   have hv := hE2 _ _ (h.env t _ hl)
   simp only [EVR] at hv
   have hcl : (tv a t).cells.toList = [tv a t] := by
    obtain ⟨_, sa, cap, cells, h1, _⟩ := hv
    rw [h1]; rfl
   have hag : Value.agg? (tv a t) = false := by
    obtain ⟨_, sa, cap, cells, h1, _⟩ := hv
    rw [h1]; rfl
   have hR : Rel w B2 (.app ce) xs (tv a t).cells.toList [] := ⟨tv a t, hcl, .inr ⟨rfl, hv.2⟩⟩
   refine ⟨B2, G2, hI2, hB2, hE2, henv, (tv a t, ⟨none, (tv a t).cells.toList, []⟩) :: gs, by simp [g1], ?_, none :: ns, by simp [n1, resNames, hl], by simp [n2], ?_⟩
   ·exact ⟨_, _, gs, rfl, ⟨rfl, rfl, ⟨cv_rel (.app ce) τ f hf xs _ _ hR, trivial⟩, by rw [hag]; exact cv_agg (.app ce) τ f hf⟩, g2⟩
   ·intro i q m hq hm
    cases i with
    | zero =>
     obtain rfl : _ = q := by simpa using hq
     obtain rfl : none = m := by simpa using hm
     rfl
    | succ i => exact n3 i q m (by simpa using hq) (by simpa using hm)
  ·cases he
 | t :: ts, .ptr τ :: rs, st, B, G, x, sf, h, he => by
  simp only [finR] at he
  obtain ⟨e, hl, he⟩ := bind_some he
  split at he
  ·rename_i n
   split at he
   ·rename_i hev
    have hev := Nat.eq_of_beq_eq_true hev
    obtain ⟨⟨z, s2⟩, hz, he⟩ := bind_some he
    obtain ⟨d, hd, he⟩ := bind_some he
    obtain ⟨f, hf, hzz⟩ := Option.map_eq_some_iff.1 he
    simp only [Prod.mk.injEq] at hzz
    obtain ⟨rfl, rfl⟩ := hzz
    obtain ⟨B2, G2, hI2, hB2, hE2, henv, gs, g1, g2, ns, n1, n2, n3⟩ := finR_ok hsz ts rs st B G z s2 h hz
    have hv := hE2 _ _ (h.env t _ hl)
    simp only [EVR] at hv
    obtain ⟨d1, o1, u1, b, off, hd1, ho1, hg, hvv⟩ := hv
    have hd : lk n s2.pl = some d := hd
    have hd1 : lk n s2.pl = some d1 := hd1
    rw [hd] at hd1
    obtain rfl := Option.some.inj hd1
    simp only [offP, Option.some.injEq, Prod.mk.injEq] at ho1
    obtain ⟨rfl, rfl⟩ := ho1
    obtain ⟨hR, hA⟩ := hI2.pl n d hd
    refine ⟨B2, G2, hI2, hB2, hE2, henv, (tv a t, G2 n) :: gs, by simp [g1], ?_, some n :: ns, by simp [n1, resNames, hl], by simp [n2], ?_⟩
    ·exact ⟨_, _, gs, rfl, ⟨b, off, hg, hvv, cv_rel d.ty τ f hf d.val _ _ hR, hA⟩, g2⟩
    ·intro i q m hq hm
     cases i with
     | zero =>
      obtain rfl : _ = q := by simpa using hq
      obtain rfl : some n = m := by simpa using hm
      exact ⟨hev, List.Sublist.refl _, d, hd⟩
     | succ i => exact n3 i q m (by simpa using hq) (by simpa using hm)
   ·cases he
  ·cases he

theorem finO_ok (h : Inv X st a w B G) : ∀ (l : List Ty) (k : Nat) (x : ObjT l), finO st.pl k l = some x → ∀ (i : Nat) (d : Dyn), (objsL l x)[i]? = some d → PlR w B (G (objName (k + i))) d ∧ ∃ d0, lk (objName (k + i)) st.pl = some d0 ∧ d.ty.size = d0.ty.size
 | [], _, _, _, i, d, hd => by simp [objsL] at hd
 | τ :: l, k, x, he, i, d, hd => by
  simp only [finO] at he
  obtain ⟨d0, h0, he⟩ := bind_some he
  obtain ⟨f, hf, he⟩ := bind_some he
  obtain ⟨z, hz, rfl⟩ := Option.map_eq_some_iff.1 he
  cases i with
  | zero =>
   obtain rfl : _ = d := by simpa [objsL] using hd
   obtain ⟨hR, hA⟩ := h.pl _ d0 h0
   have hR2 := cv_rel d0.ty τ f hf d0.val _ _ hR
   refine ⟨⟨hR2, hA⟩, d0, h0, ?_⟩
   rw [← Rel_length w B _ _ _ _ hR2, ← Rel_length w B _ _ _ _ hR]
  | succ i =>
   have := finO_ok h l (k + 1) z hz i d (by simpa [objsL] using hd)
   rw [show k + (i + 1) = k + 1 + i by omega]
   exact this

theorem objsL_len : ∀ (l : List Ty) (x : ObjT l), (objsL l x).length = l.length
 | [], _ => rfl
 | _ :: l, x => by simp [objsL, objsL_len l x.2]

end
end
end Go.Pv
