/- All operations; regions in the order of the text. -/
import Derived.Test.YtmjappidghjkjaaPvCall4
import Derived.LoopN
namespace Go.Pv
noncomputable section
universe u v

section
variable {X : Cx} {st : St} {a : Act} {w : World} {B : Nat → Prop} {G : Nat → PG} {E : Operand → Option EV}

theorem pickOp_ok (h : Inv X st a w B G) {Ea Eb : Operand → Option EV} {o : Oper} {c x y : Operand} (ho : o.op = .pick c x y) (hE : EOk X st a w B G E) (ha : a.eval c = .bool true → EOk X st a w B G Ea) (hb : a.eval c = .bool false → EOk X st a w B G Eb) {r : ORes} (he : pickOp X.P (look st) E Ea Eb c x y o.type = some r) {z : r.α} (_hz : r.run = some z) :
    Does X st a w o (r.out z).ev (r.out z).upd := by
  unfold pickOp at he
  obtain ⟨ec, hec, he⟩ := bind_some he
  obtain ⟨dc, hdc, he⟩ := bind_some he
  split at he
  · rename_i g
    obtain ⟨e1, h1, he⟩ := bind_some he
    obtain ⟨e2, h2, he⟩ := bind_some he
    obtain ⟨d1, h3, he⟩ := bind_some he
    obtain ⟨e3, h4, he⟩ := bind_some he
    obtain ⟨e4, h5, he⟩ := bind_some he
    obtain ⟨d2, h6, he⟩ := bind_some he
    split at he
    · rename_i s x1 t y1
      split at he
      · rename_i hst
        subst hst
        split at he
        · rename_i hp
          obtain rfl := Option.some.inj he
          have hcv := bool_ok h (hE c ec hec) hdc
          exact op_pick h hE ho hec hdc (fun hg => ha (by rw [hcv, hg]) x e1 h1) h2 h3 (fun hg => hb (by rw [hcv, hg]) y e3 h4) h5 h6 hp
        · cases he
      · cases he
    · cases he
  · cases he

theorem evalOp_ok (h : Inv X st a w B G) {Γ : Nat → Option CSem} (hΓ : ∀ f sem, Γ f = some sem → Contract X.P f sem) (hE : EOk X st a w B G E) {o : Oper} {dst : Nat} {r : ORes} (he : evalOp X.P Γ (look st) E dst o.op o.type = some r) {x : r.α} (hx : r.run = some x) :
    Does X st a w o (r.out x).ev (r.out x).upd := by
  cases ho : o.op with
  | move z =>
    rw [ho] at he
    simp only [evalOp] at he
    obtain ⟨e, he1, he⟩ := bind_some he
    obtain ⟨e', hf, rfl⟩ := Option.map_eq_some_iff.1 he
    exact op_move h hE (.inl ho) he1 hf
  | assign z =>
    rw [ho] at he
    simp only [evalOp] at he
    obtain ⟨e, he1, he⟩ := bind_some he
    obtain ⟨e', hf, rfl⟩ := Option.map_eq_some_iff.1 he
    exact op_move h hE (.inr ho) he1 hf
  | pick c y z =>
    rw [ho] at he
    exact pickOp_ok h ho hE (fun _ => hE) (fun _ => hE) he hx
  | alloc t => rw [ho] at he; exact op_alloc h ho he hx
  | box t z => rw [ho] at he; exact op_box h hE ho he hx
  | build t ps => rw [ho] at he; exact op_build h hE ho he hx
  | buildSlice t n ps => rw [ho] at he; exact op_buildSlice h hE ho he hx
  | load t z => rw [ho] at he; exact op_load h hE ho he hx
  | store t z y => rw [ho] at he; exact op_store h hE ho he hx
  | nilCheck z => rw [ho] at he; exact op_nilCheck h hE ho he hx
  | binOp op xt z y yt =>
    rw [ho] at he
    simp only [evalOp] at he
    obtain ⟨ex, hex, he⟩ := bind_some he
    obtain ⟨ey, hey, he⟩ := bind_some he
    obtain ⟨v, hr, hu, hv⟩ := binOp_ok (x := z) h (hE z ex hex) (hE y ey hey) he hx
    rw [hu]
    refine Does.value (v := v) ?_ h hv
    simp only [Sem.run_bind] at hr
    cases hq : (eqGuard op xt z y (a.eval z) (a.eval y)).run X.P w with
    | ok u w' =>
      rw [hq] at hr
      simp only [Result.andThen_ok] at hr
      simp [execOp, ho, hq, hr]
    | halt u w' => rw [hq] at hr; cases hr
  | unOp op xt z =>
    rw [ho] at he
    simp only [evalOp] at he
    obtain ⟨ex, hex, he⟩ := bind_some he
    obtain ⟨v, hr, hu, hv⟩ := unOp_ok h (hE z ex hex) he hx
    rw [hu]
    refine Does.value (v := v) ?_ h hv
    simp [execOp, ho, hr]
  | convert s t z =>
    rw [ho] at he
    simp only [evalOp] at he
    obtain ⟨ez, hez, he⟩ := bind_some he
    obtain ⟨ez', hfz, he⟩ := bind_some he
    obtain ⟨u, hu, he⟩ := bind_some he
    obtain ⟨d, hd, he⟩ := bind_some he
    have hv := fix_ok (hE z ez hez) hfz
    split at he
    · obtain ⟨q, hq, he⟩ := bind_some he
      split at he
      · rename_i k _ k' n
        obtain rfl := Option.some.inj he
        obtain ⟨n', hn, rfl⟩ := Option.map_eq_some_iff.1 hx
        have hn : n = some n' := hn
        subst hn
        exact op_convert_int h ho hd hu hv hq
      · cases he
    · obtain ⟨q, hq, he⟩ := bind_some he
      split at he
      · obtain rfl := Option.some.inj he
        exact op_convert_str h ho hd hu hv hq
      · cases he
    · cases he
  | makeInterface t z => rw [ho] at he; exact op_makeInterface h hE ho he hx
  | makeFunc fn first caps =>
    rw [ho] at he
    cases fn with
    | func f => exact op_makeFunc h hE ho he hx
    | _ => simp only [evalOp] at he; cases he
  | slice t z lo hi mx => rw [ho] at he; exact op_slice h hE ho he hx
  | fieldAddr s z f => rw [ho] at he; exact op_fieldAddr h hE ho he hx
  | field s z f => rw [ho] at he; exact op_field h hE ho he hx
  | indexAddr t z y => rw [ho] at he; exact op_indexAddr h hE ho he hx
  | index t z y => rw [ho] at he; exact op_index h hE ho he hx
  | typeAssert z xt at_ ok => rw [ho] at he; exact op_typeAssert h hE ho he hx
  | extract z i => rw [ho] at he; exact op_extract h hE ho he hx
  | call c =>
    rw [ho] at he
    have he0 := he
    simp only [evalOp] at he
    split at he
    · rename_i hc; exact op_len h hE ho hc he0 hx
    · rename_i hc; exact op_minmax h hE ho (.inl hc) he0 hx
    · rename_i hc; exact op_minmax h hE ho (.inr hc) he0 hx
    · rename_i hc; exact op_append h hE ho hc he0 hx
    · rename_i f hc
      obtain ⟨xs, hxs, he⟩ := bind_some he
      have hes := EVRL_mapM (tv := tv a) c.args.toList xs hE hxs
      refine callOp_ok h hΓ ?_ hes he hx ?_
      · intro i e e' hf
        obtain ⟨t, ht, hf⟩ := bind_some hf
        exact .inl ⟨t, hf⟩
      · rintro ⟨fn, h1, h2, h3⟩
        have : (c.args.toList.map a.eval).toArray = c.args.map a.eval := by apply Array.ext'; simp
        rw [this]
        have h2' : fn.name ≠ "runtime.NumGoroutine" := by simpa using h2
        have h3' : fn.body ≠ none := fun e => by rw [e] at h3; cases h3
        simp [execOp, ho, resolve, hc, Act.eval, Deferred.ofValue, invoke, callFunc, h1, h2', h3']
    · rename_i t hc
      obtain ⟨eg, heg, he⟩ := bind_some he
      split at he
      · rename_i f caps
        obtain ⟨xs, hxs, he⟩ := bind_some he
        have hes := EVRL_mapM (tv := tv a) c.args.toList xs hE hxs
        have hg := hE _ _ heg
        simp only [EVR] at hg
        obtain ⟨vs, hgv, hcaps⟩ := hg
        have happ : EVRL (tv a) w B G (look st) (xs ++ caps) (c.args.toList.map a.eval ++ vs.toList) := by
          have key : ∀ (l1 l2 : List EV) (v1 v2 : List Value), EVRL (tv a) w B G (look st) l1 v1 → EVRL (tv a) w B G (look st) l2 v2 → EVRL (tv a) w B G (look st) (l1 ++ l2) (v1 ++ v2) := by
            intro l1
            induction l1 with
            | nil => intro l2 v1 v2 h1 h2; simp only [EVRL] at h1; subst h1; exact h2
            | cons e l1 ih =>
              intro l2 v1 v2 h1 h2
              simp only [EVRL] at h1
              obtain ⟨v, r, rfl, h3, h4⟩ := h1
              simp only [List.cons_append, EVRL]
              exact ⟨v, _, rfl, h3, ih l2 r v2 h4 h2⟩
          exact key _ _ _ _ hes hcaps
        refine callOp_ok h hΓ ?_ happ he hx ?_
        · intro i e e' hf
          split at hf
          · rename_i t' _; exact .inl ⟨t', hf⟩
          · exact .inr (Option.some.inj hf).symm
        · rintro ⟨fn, h1, h2, h3⟩
          have : (c.args.toList.map a.eval ++ vs.toList).toArray = c.args.map a.eval ++ vs := by apply Array.ext'; simp
          rw [this]
          have h2' : fn.name ≠ "runtime.NumGoroutine" := by simpa using h2
          have h3' : fn.body ≠ none := fun e => by rw [e] at h3; cases h3
          simp [execOp, ho, resolve, hc, hgv, Deferred.ofValue, invoke, callFunc, h1, h2', h3']
      · cases he
    · cases he
  | _ => rw [ho] at he; simp only [evalOp] at he; cases he

/-! ### guards -/
theorem Eop_ok (h : Inv X st a w B G) (g : Option (Nat × Bool)) (hg : ∀ t b, g = some (t, b) → tv a t = .bool b) : EOk X st a w B G (Eop st.env g) := by
  intro z e he
  cases z with
  | tmp t =>
    simp only [Eop] at he
    have key : ∀ e, lk t st.env = some e → EVR (tv a) w B G (look st) e (a.eval (.tmp t)) := fun e he => h.env t e he
    split at he
    · rename_i t' w' v hlk
      have hm := key _ hlk
      split at he
      · rename_i gt gw
        cases hc : (Nat.beq gt t' && (gw == w')) with
        | true =>
          rw [hc] at he
          obtain rfl := Option.some.inj he
          simp only [Bool.and_eq_true, beq_iff_eq] at hc
          obtain rfl := Nat.eq_of_beq_eq_true hc.1
          obtain rfl := hc.2
          simp only [EVR] at hm
          exact hm (hg _ _ rfl)
        | false =>
          rw [hc] at he
          obtain rfl := Option.some.inj he
          exact hm
      · obtain rfl := Option.some.inj he
        exact hm
    · exact key e he
  | const v =>
    obtain rfl := Option.some.inj he
    simp only [EVR]; rfl
  | func f =>
    obtain rfl := Option.some.inj he
    simp only [EVR, EVRL]
    exact ⟨#[], rfl, rfl⟩
  | global g => cases he

theorem opE_ok (h : Inv X st a w B G) {Γ : Nat → Option CSem} (hΓ : ∀ f sem, Γ f = some sem → Contract X.P f sem) {g : Option (Nat × Bool)} (hg : ∀ t b, g = some (t, b) → tv a t = .bool b) {o : Oper} {dst : Nat} {r : ORes} (he : opE X.P Γ (look st) st.env g dst o.op o.type = some r) {x : r.α} (hx : r.run = some x) :
    Does X st a w o (r.out x).ev (r.out x).upd := by
  unfold opE at he
  split at he
  · rename_i t y z ho
    refine pickOp_ok h ho (Eop_ok h none (by simp)) (fun hc => Eop_ok h _ ?_) (fun hc => Eop_ok h _ ?_) he hx
    · intro t' b e; obtain ⟨rfl, rfl⟩ := Prod.mk.inj (Option.some.inj e); exact hc
    · intro t' b e; obtain ⟨rfl, rfl⟩ := Prod.mk.inj (Option.some.inj e); exact hc
  · exact evalOp_ok h hΓ (Eop_ok h _ hg) he hx

theorem putO_ok {st st' : St} (h : Inv X st a w B G) {e : EV} {v : Value} (hv : EVR (tv a) w B G (look st) e v) {dst : Option Nat} (hp : putO X.nt dst e st = some st') : Inv X st' (a.put dst v) w B G := by
  unfold putO at hp
  split at hp
  · rename_i d
    split at hp
    · rename_i hk
      simp only [Bool.and_eq_true, Bool.not_eq_true'] at hk
      obtain rfl := Option.some.inj hp
      exact h.put (by simpa [Nat.blt_eq] using hk.1) hv hk.2
    · cases hp
  · obtain rfl := Option.some.inj hp
    exact h

theorem mergeU_true (L : Look) : ∀ (U u : Upds), mergeU true L U = some u → u = U
  | [], u, h => (Option.some.inj h).symm
  | (n, .set d) :: r, u, h => by
    simp only [mergeU] at h
    obtain ⟨o, ho, h⟩ := bind_some h
    split at h
    · obtain ⟨z, hz, rfl⟩ := Option.map_eq_some_iff.1 h
      rw [mergeU_true L r z hz]; rfl
    · cases h
  | (n, .keep d) :: r, u, h => by
    simp only [mergeU] at h
    obtain ⟨o, ho, h⟩ := bind_some h
    split at h
    · obtain ⟨z, hz, rfl⟩ := Option.map_eq_some_iff.1 h
      rw [mergeU_true L r z hz]; rfl
    · cases h
  | (n, .del) :: r, u, h => by cases h
  | (n, .new d) :: r, u, h => by cases h

/-- nothing changes -/
def Idle (L : Look) : Upds → Prop
  | [] => True
  | u :: r => (∃ d, L u.1 = some d ∧ (u.2 = .set d ∨ u.2 = .keep d)) ∧ Idle L r

theorem mergeU_false (L : Look) : ∀ (U u : Upds), mergeU false L U = some u → Idle L u
  | [], u, h => by obtain rfl := Option.some.inj h; trivial
  | (n, .set d) :: r, u, h => by
    simp only [mergeU] at h
    obtain ⟨o, ho, h⟩ := bind_some h
    split at h
    · rename_i hty
      obtain ⟨z, hz, rfl⟩ := Option.map_eq_some_iff.1 h
      refine ⟨⟨o, ho, .inl ?_⟩, mergeU_false L r z hz⟩
      obtain ⟨ty, x⟩ := o
      have hty : ty = d.ty := hty
      subst hty
      rfl
    · cases h
  | (n, .keep d) :: r, u, h => by
    simp only [mergeU] at h
    obtain ⟨o, ho, h⟩ := bind_some h
    split at h
    · rename_i hty
      obtain ⟨z, hz, rfl⟩ := Option.map_eq_some_iff.1 h
      refine ⟨⟨o, ho, .inr ?_⟩, mergeU_false L r z hz⟩
      obtain ⟨ty, x⟩ := o
      have hty : ty = d.ty := hty
      subst hty
      rfl
    · cases h
  | (n, .del) :: r, u, h => by cases h
  | (n, .new d) :: r, u, h => by cases h

theorem Idle.pl : ∀ (U : Upds) (s : St) (L : Look), (∀ n, lk n s.pl = L n) → Idle L U → ∀ n, lk n (applyU U s).pl = L n
  | [], s, L, h, _, n => h n
  | u :: r, s, L, h, ⟨⟨d, hd, hu⟩, hr⟩, n => by
    refine Idle.pl r (apply1 u s) L (fun m => ?_) hr n
    rw [apply1_pl]
    split
    · rename_i e
      rw [e, hd]
      rcases hu with hu | hu <;> rw [hu]
    · exact h m

theorem Inv.idle (h : Inv X st a w B G) {U : Upds} (hU : Idle (look st) U) : Inv X (applyU U st) a w B G := by
  have hl := Idle.pl U st (look st) (fun _ => rfl) hU
  have hmem : ∀ (U : Upds), Idle (look st) U → ∀ u ∈ U, ∃ d, look st u.1 = some d ∧ (u.2 = .set d ∨ u.2 = .keep d) := by
    intro U
    induction U with
    | nil => intro _ u hu; cases hu
    | cons v U ih =>
      intro hU u hu
      obtain ⟨h1, h2⟩ := hU
      rcases List.mem_cons.1 hu with rfl | hu
      · exact h1
      · exact ih h2 u hu
  refine h.move U w B G (Nat.le_refl _) ⟨rfl, rfl, rfl⟩ (fun b hb => ⟨rfl, hb⟩) h.bsz (fun _ _ h => .inl h) (fun _ _ _ => rfl) ?_ ?_ (fun _ _ => rfl) ?_ ?_ (fun _ _ _ _ _ _ _ => rfl) ?_
  · intro n d hd
    rw [hl] at hd
    exact ⟨h.pl n d hd, h.sep n d hd⟩
  · intro n m d d' hd hd'
    rw [hl] at hd hd'
    exact h.apart n m d d' hd hd'
  · intro u hu
    obtain ⟨d, hd, _⟩ := hmem U hU u hu
    exact .inr ⟨rfl, ⟨d, d, hd, by rw [hl]; exact hd, rfl⟩, .inr (.inl rfl)⟩
  · intro k d hk
    rw [hl] at hk
    exact h.obj k d hk
  · intro u hu hd
    obtain ⟨d, _, hu⟩ := hmem U hU u hu
    rcases hu with hu | hu <;> (rw [hu] at hd; cases hd)

theorem yielded_ok {ops : Array Oper} {j t : Nat} {g : Bool} (hj : (ops[j]?).bind (·.dst) = some t) (ht : tv a t = .bool g) : yielded ops a.tmps j = some g := by
  unfold yielded
  rw [hj]
  simp only [Option.bind_some]
  have ht : a.tmps.getD t undef = .bool g := ht
  cases hh : a.tmps[t]? with
  | none =>
    have : a.tmps.getD t undef = undef := by simp [Array.getD_eq_getD_getElem?, hh]
    rw [this] at ht; cases ht
  | some v =>
    have : a.tmps.getD t undef = v := by simp [Array.getD_eq_getD_getElem?, hh]
    rw [this] at ht; rw [ht]

theorem guardE_ok (h : Inv X st a w B G) {ops : Array Oper} {j t : Nat} {g : Bool} (hg : guardE ops st j = some (t, g)) : (ops[j]?).bind (·.dst) = some t ∧ tv a t = .bool g := by
  unfold guardE at hg
  obtain ⟨o, ho, hg⟩ := bind_some hg
  obtain ⟨t', ht', hg⟩ := bind_some hg
  obtain ⟨e, he, hg⟩ := bind_some hg
  obtain ⟨d, hd, hg⟩ := bind_some hg
  split at hg
  · simp only [Option.some.injEq, Prod.mk.injEq] at hg
    obtain ⟨rfl, rfl⟩ := hg
    exact ⟨by rw [ho]; exact ht', bool_ok h (h.env _ e he) hd⟩
  · cases hg

theorem guardR_some {α β : Type} {b : Bool} {run : Option β} {d : β} {k : β → Option α} {r : α} (h : guardR b run d k = some r) : ∃ x, (b = true → run = some x) ∧ k x = some r := by
  unfold guardR at h
  split at h
  · rename_i v
    cases b with
    | true => exact ⟨v, fun _ => rfl, h⟩
    | false => exact ⟨d, fun h => (Bool.noConfusion h), h⟩
  · cases b with
    | true => cases h
    | false => exact ⟨d, fun h => (Bool.noConfusion h), h⟩

/-- the operations of a region, in the order of the text -/
theorem evalOps_ok {α : Type} {Γ : Nat → Option CSem} (hΓ : ∀ f sem, Γ f = some sem → Contract X.P f sem) {ops : Array Oper} {k : St → Option α} {r : α} {Q : Exit → Act → World → Prop} (hk : ∀ st a w B G, Inv X st a w B G → k st = some r → Q .normal a w) :
    ∀ (l : List Oper) (st : St) (a : Act) (w : World) (B : Nat → Prop) (G : Nat → PG), Inv X st a w B G → evalOps X.P Γ X.nt ops k l st = some r → wpList X.P ops Q l a w
  | [], st, a, w, B, G, h, he => hk st a w B G h he
  | o :: l, st, a, w, B, G, h, he => by
    simp only [evalOps] at he
    simp only [wpList]
    cases hgd : o.guard with
    | none =>
      rw [hgd] at he
      obtain ⟨e, h1, he⟩ := bind_some he
      obtain ⟨x, h2, he⟩ := bind_some he
      obtain ⟨st', h3, he⟩ := bind_some he
      have hw : Region.wanted o (yielded ops a.tmps) = true := by simp [Region.wanted, hgd]
      rw [if_pos hw]
      left
      refine opE_ok h hΓ (by simp) h1 h2 _ _ fun v w' B' G' hI hv => ?_
      exact evalOps_ok hΓ hk l st' _ w' B' G' (putO_ok hI hv h3) he
    | some jw =>
      obtain ⟨j, want⟩ := jw
      rw [hgd] at he
      obtain ⟨⟨t, g⟩, hg, he⟩ := bind_some he
      obtain ⟨e, h1, he⟩ := bind_some he
      obtain ⟨x, h2, he⟩ := guardR_some he
      obtain ⟨u, h3, he⟩ := bind_some he
      obtain ⟨st', h4, he5⟩ := bind_some he
      obtain ⟨hd, ht⟩ := guardE_ok h hg
      have hy := yielded_ok hd ht
      simp only at h1 h2 h3 h4
      have hwant : Region.wanted o (yielded ops a.tmps) = (g == want) := by
        simp only [Region.wanted, hgd, hy]
        cases g <;> cases want <;> rfl
      by_cases hgw : g = want
      · subst hgw
        have hb : (bif g then g else !g) = true := by cases g <;> rfl
        rw [hb] at h3
        have h2 := h2 hb
        have hu := mergeU_true _ _ _ h3
        subst hu
        rw [hwant, if_pos (by simp)]
        left
        refine opE_ok h hΓ (fun t' b e => by obtain ⟨rfl, rfl⟩ := Prod.mk.inj (Option.some.inj e); exact ht) h1 h2 _ _ fun v w' B' G' hI hv => ?_
        exact evalOps_ok hΓ hk l st' _ w' B' G' (putO_ok hI (by simp only [EVR]; exact fun _ => hv) h4) he5
      · have hb : (bif want then g else !g) = false := by cases g <;> cases want <;> first | rfl | (exact absurd rfl hgw)
        rw [hb] at h3
        rw [hwant, if_neg (by simpa using hgw)]
        have hI := h.idle (mergeU_false _ _ _ h3)
        refine evalOps_ok hΓ hk l st' _ w B G (putO_ok hI ?_ h4) he5
        simp only [EVR]
        intro htt
        rw [ht] at htt
        cases htt
        exact absurd rfl hgw

end
end
end Go.Pv
