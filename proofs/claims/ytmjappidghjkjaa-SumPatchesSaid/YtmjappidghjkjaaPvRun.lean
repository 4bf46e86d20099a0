/- Bodies and functions: a plain run is what the machine does. -/
import Derived.Test.YtmjappidghjkjaaPvLoop
namespace Go.Pv
noncomputable section
universe u v

section
variable {X : Cx} {st : St} {a : Act} {w : World} {B : Nat → Prop} {G : Nat → PG}

theorem boolE_ok (h : Inv X st a w B G) {c : Operand} {b : Bool} (hb : boolE st c = some b) : a.eval c = .bool b := by
  unfold boolE at hb
  obtain ⟨e, he, hb⟩ := bind_some hb
  have hv := Eop_ok h none (by simp) c e he
  split at hb
  · obtain rfl := Option.some.inj hb
    simp only [EVR] at hv
    exact hv
  · obtain ⟨d, hd, hb⟩ := bind_some hb
    split at hb
    · obtain rfl := Option.some.inj hb
      exact bool_ok h hv hd
    · cases hb

/-- what a body's continuations ask -/
structure Ks {α : Type} (X : Cx) (Q : Exit → Act → World → Prop) (kn : St → Option α) (kx : List (Nat × (St → Option α))) (kr : St → Option α) (r : α) : Prop where
  n : ∀ st a w B G, Inv X st a w B G → kn st = some r → Q .normal a w
  x : ∀ id k, lk id kx = some k → ∀ st a w B G, Inv X st a w B G → k st = some r → Q (.exit id) a w
  r : ∀ st a w B G, Inv X st a w B G → kr st = some r → Q .ret a w

theorem evalCode_ok {C : Cfg} (hP : X.P = C.P) (hnt : X.nt = C.nt) (hob : ∀ k, C.nob ≤ k → X.oa k = none) (hΓ : ∀ f sem, C.Γ f = some sem → Contract C.P f sem) :
    ∀ (c : Code) {α : Type} (cur : Nat) (st : St) (kn : St → Option α) (kx : List (Nat × (St → Option α))) (kr : St → Option α) (r : α) (Q : Exit → Act → World → Prop) (a : Act) (w : World) (B : Nat → Prop) (G : Nat → PG),
      Inv X st a w B G → Ks X Q kn kx kr r → evalCode C c cur st kn kx kr = some r → c.wp C.P Q a w
  | .skip, α, cur, st, kn, kx, kr, r, Q, a, w, B, G, h, hk, he => wp_skip (hk.n st a w B G h he)
  | .label l, α, cur, st, kn, kx, kr, r, Q, a, w, B, G, h, hk, he => wp_label (hk.n st a w B G h he)
  | .ret, α, cur, st, kn, kx, kr, r, Q, a, w, B, G, h, hk, he => wp_ret (hk.r st a w B G h he)
  | .exit id, α, cur, st, kn, kx, kr, r, Q, a, w, B, G, h, hk, he => by
    simp only [evalCode] at he
    obtain ⟨k, hx, he⟩ := bind_some he
    exact wp_exit (hk.x id k hx st a w B G h he)
  | .region id ops d, α, cur, st, kn, kx, kr, r, Q, a, w, B, G, h, hk, he => by
    cases d with
    | true =>
      simp only [evalCode, cond_true] at he
      cases hm : C.P.follows .mixedOrders with
      | false => rw [hm] at he; cases he
      | true =>
        rw [hm] at he
        simp only [cond_true] at he
        rw [← hP]
        exact draw_ok (by rw [hP]; exact hm) (by rw [hP]; exact hΓ) (fun st a w B G h he => hk.n st a w B G h he) h (by rw [hP, hnt]; exact he)
    | false =>
      simp only [evalCode, cond_false, evalRegion] at he
      refine wp_region_list ?_
      rw [← hP]
      exact evalOps_ok (by rw [hP]; exact hΓ) (fun st a w B G h he => hk.n st a w B G h he) ops.toList st a w B G h (by rw [hP, hnt]; exact he)
  | .seq x y, α, cur, st, kn, kx, kr, r, Q, a, w, B, G, h, hk, he => by
    simp only [evalCode] at he
    refine wp_seq (evalCode_ok hP hnt hob hΓ x cur st _ kx kr r _ a w B G h ⟨?_, ?_, ?_⟩ he)
    · intro st' a' w' B' G' h' he'
      exact evalCode_ok hP hnt hob hΓ y cur st' kn kx kr r Q a' w' B' G' h' hk he'
    · intro id k hx st' a' w' B' G' h' he'
      exact hk.x id k hx st' a' w' B' G' h' he'
    · intro st' a' w' B' G' h' he'
      exact hk.r st' a' w' B' G' h' he'
  | .cond c x y, α, cur, st, kn, kx, kr, r, Q, a, w, B, G, h, hk, he => by
    simp only [evalCode] at he
    obtain ⟨b, hb, he⟩ := bind_some he
    refine wp_cond (boolE_ok h hb) ?_
    cases b with
    | true => exact evalCode_ok hP hnt hob hΓ x cur st kn kx kr r Q a w B G h hk he
    | false => exact evalCode_ok hP hnt hob hΓ y cur st kn kx kr r Q a w B G h hk he
  | .block id x, α, cur, st, kn, kx, kr, r, Q, a, w, B, G, h, hk, he => by
    simp only [evalCode] at he
    refine wp_block (evalCode_ok hP hnt hob hΓ x id st kn ((id, kn) :: kx) kr r _ a w B G h ⟨?_, ?_, ?_⟩ he)
    · intro st' a' w' B' G' h' he'
      exact hk.n st' a' w' B' G' h' he'
    · intro id' k hx st' a' w' B' G' h' he'
      simp only [lk] at hx
      show if id' = id then Q .normal a' w' else Q (.exit id') a' w'
      by_cases e : id' = id
      · subst e
        simp only [Nat.beq_refl, cond_true, Option.some.injEq] at hx
        subst hx
        rw [if_pos rfl]
        exact hk.n st' a' w' B' G' h' he'
      · rw [beq_ne e] at hx
        rw [if_neg e]
        exact hk.x id' k hx st' a' w' B' G' h' he'
    · intro st' a' w' B' G' h' he'
      exact hk.r st' a' w' B' G' h' he'
  | .loop x, α, cur, st, kn, kx, kr, r, Q, a, w, B, G, h, hk, he => by
    simp only [evalCode] at he
    obtain ⟨sh, hsh, he⟩ := bind_some he
    obtain ⟨y, hy, he⟩ := bind_some he
    obtain ⟨n, hn⟩ := loopR_some he
    obtain ⟨G1, h1⟩ := abs_ok h hob hy
    refine wp_loop_rounds n ?_
    clear he hy h
    induction n generalizing y a w B G1 with
    | zero => cases hn
    | succ n ih =>
      simp only [iter] at hn
      rw [rounds_succ]
      split at hn
      · cases hn
      · rename_i r' hr
        obtain rfl := Option.some.inj hn
        refine evalCode_ok hP hnt hob hΓ x cur (conc sh y) _ _ _ (Sum.inr r') _ a w B G1 h1 ⟨?_, ?_, ?_⟩ hr
        · intro st' a' w' B' G' h' he'
          obtain ⟨z, _, hz⟩ := Option.map_eq_some_iff.1 he'
          cases hz
        · intro id k hx st' a' w' B' G' h' he'
          rw [lk_map (fun q : Nat × (St → Option α) => fun s => (q.2 s).map Sum.inr) id kx] at hx
          obtain ⟨k0, hk0, rfl⟩ := Option.map_eq_some_iff.1 hx
          obtain ⟨z, hz, hzz⟩ := Option.map_eq_some_iff.1 he'
          obtain rfl := Sum.inr.inj hzz
          exact hk.x id k0 hk0 st' a' w' B' G' h' hz
        · intro st' a' w' B' G' h' he'
          obtain ⟨z, hz, hzz⟩ := Option.map_eq_some_iff.1 he'
          obtain rfl := Sum.inr.inj hzz
          exact hk.r st' a' w' B' G' h' hz
      · rename_i y' hr
        refine evalCode_ok hP hnt hob hΓ x cur (conc sh y) _ _ _ (Sum.inl y') _ a w B G1 h1 ⟨?_, ?_, ?_⟩ hr
        · intro st' a' w' B' G' h' he'
          obtain ⟨z, hz, hzz⟩ := Option.map_eq_some_iff.1 he'
          obtain rfl := Sum.inl.inj hzz
          obtain ⟨G2, h2⟩ := abs_ok h' hob hz
          exact ih a' w' B' z hn G2 h2
        · intro id k hx st' a' w' B' G' h' he'
          rw [lk_map (fun q : Nat × (St → Option α) => fun s => (q.2 s).map Sum.inr) id kx] at hx
          obtain ⟨k0, hk0, rfl⟩ := Option.map_eq_some_iff.1 hx
          obtain ⟨z, hz, hzz⟩ := Option.map_eq_some_iff.1 he'
          cases hzz
        · intro st' a' w' B' G' h' he'
          obtain ⟨z, hz, hzz⟩ := Option.map_eq_some_iff.1 he'
          cases hzz
  | .rangeFunc _ _ _ _, α, cur, st, kn, kx, kr, r, Q, a, w, B, G, h, hk, he => by simp [evalCode] at he
  | .scope _, α, cur, st, kn, kx, kr, r, Q, a, w, B, G, h, hk, he => by simp [evalCode] at he
  | .goto _, α, cur, st, kn, kx, kr, r, Q, a, w, B, G, h, hk, he => by simp [evalCode] at he
  | .refuse _, α, cur, st, kn, kx, kr, r, Q, a, w, B, G, h, hk, he => by simp [evalCode] at he

/-! ### results -/
theorem take_env {e : EV} {y : ODyn} {U : Upds} (h : e.take (look st) = some (y, U)) : (applyU U st).env = st.env := by
  cases e with
  | at_ n p =>
    simp only [EV.take] at h
    obtain ⟨d, _, h⟩ := bind_some h
    obtain ⟨y0, _, h⟩ := bind_some h
    split at h
    · simp only [Option.some.injEq, Prod.mk.injEq] at h
      obtain ⟨_, rfl⟩ := h
      rfl
    · split at h
      · obtain ⟨d', _, h⟩ := bind_some h
        split at h
        · simp only [Option.some.injEq, Prod.mk.injEq] at h
          obtain ⟨_, rfl⟩ := h
          rfl
        · cases h
      · cases h
  | val d => simp only [EV.take, Option.some.injEq, Prod.mk.injEq] at h; obtain ⟨_, rfl⟩ := h; rfl
  | clip e xs => simp only [EV.take, Option.some.injEq, Prod.mk.injEq] at h; obtain ⟨_, rfl⟩ := h; rfl
  | _ => cases h

theorem F_sub (g : PG) : g.F.Sublist g.blocks := by
  unfold PG.blocks
  split
  · exact List.sublist_cons_self _ _
  · exact List.Sublist.refl _

theorem finR_ok (hsz : X.w0.heap.size ≤ w.heap.size) : ∀ (ts : List Nat) (rs : List RK) (st : St) (B : Nat → Prop) (G : Nat → PG) (x : ResT rs) (sf : St), Inv X st a w B G → finR ts rs st = some (x, sf) → ∃ B' G', Inv X sf a w B' G' ∧ (∀ b, B b → B' b) ∧
    (∀ e v, EVR (tv a) w B G (look st) e v → EVR (tv a) w B' G' (look sf) e v) ∧ sf.env = st.env ∧
    ∃ gs : List (Value × PG), gs.map (·.1) = ts.map (tv a) ∧ RsRel w B' (resL rs x) gs ∧ ∃ ns : List (Option Nat), ns.filterMap id = resNames st.env ts rs ∧ gs.length = ns.length ∧
      ∀ (i : Nat) (q : Value × PG) (m : Option Nat), gs[i]? = some q → ns[i]? = some m → match m with
        | none => q.2.blocks = []
        | some n => n % 2 = 0 ∧ q.2.blocks.Sublist (G' n).blocks ∧ ∃ d, lk n sf.pl = some d
  | [], [], st, B, G, x, sf, h, he => by
    simp only [finR, Option.some.injEq, Prod.mk.injEq] at he
    obtain ⟨_, rfl⟩ := he
    exact ⟨B, G, h, fun _ h => h, fun _ _ h => h, rfl, [], rfl, rfl, [], rfl, rfl, by simp⟩
  | [], _ :: _, _, _, _, _, _, _, he => by simp [finR] at he
  | _ :: _, [], _, _, _, _, _, _, he => by simp [finR] at he
  | t :: ts, .val τ :: rs, st, B, G, x, sf, h, he => by
    simp only [finR] at he
    obtain ⟨e, hl, he⟩ := bind_some he
    obtain ⟨⟨y, U⟩, hy, he⟩ := bind_some he
    split at he
    · rename_i ty v heq
      have heq : y = ⟨ty, some v⟩ := heq
      subst heq
      split at he
      · rename_i hp
        obtain ⟨f, hf, he⟩ := bind_some he
        obtain ⟨⟨z, s2⟩, hz, hzz⟩ := Option.map_eq_some_iff.1 he
        simp only [Prod.mk.injEq] at hzz
        obtain ⟨rfl, rfl⟩ := hzz
        obtain ⟨B1, G1, hI1, hpu, hv1, hB1, hk1, hE1⟩ := take_ok h (h.env t e hl) hy rfl
        obtain ⟨B2, G2, hI2, hB2, hE2, henv, gs, g1, g2, ns, n1, n2, n3⟩ := finR_ok hsz ts rs (applyU U st) B1 G1 z s2 hI1 hz
        have henv1 : (applyU U st).env = st.env := take_env hy
        rw [henv1] at n1 henv
        refine ⟨B2, G2, hI2, fun b hb => hB2 b (hB1 b hb), fun e v hv => hE2 e v (hE1 e v hv), henv, (tv a t, ⟨none, [], []⟩) :: gs, by simp [g1], ?_, none :: ns, ?_, by simp [n2], ?_⟩
        · refine ⟨_, _, gs, rfl, ⟨hp, ?_, rfl⟩, g2⟩
          have hv2 : VR w B2 ty v (tv a t) [] := hv1.same (fun _ _ => rfl) hB2 (by simp)
          exact ⟨cv_rel ty τ f hf v _ _ hv2.1, by rw [hv2.2]; exact cv_agg ty τ f hf⟩
        · simp only [List.filterMap_cons, id, n1]
          cases rs <;> cases ts <;> simp [resNames]
        · intro i q m hq hm
          cases i with
          | zero =>
            obtain rfl : _ = q := by simpa using hq
            obtain rfl : none = m := by simpa using hm
            rfl
          | succ i => exact n3 i q m (by simpa using hq) (by simpa using hm)
      · cases he
    · cases he
  | t :: ts, .own τ :: rs, st, B, G, x, sf, h, he => by
    simp only [finR] at he
    obtain ⟨e, hl, he⟩ := bind_some he
    split at he
    · rename_i n
      split at he
      · rename_i hev
        have hev := Nat.eq_of_beq_eq_true hev
        obtain ⟨⟨z, s2⟩, hz, he⟩ := bind_some he
        obtain ⟨d, hd, he⟩ := bind_some he
        obtain ⟨f, hf, hzz⟩ := Option.map_eq_some_iff.1 he
        simp only [Prod.mk.injEq] at hzz
        obtain ⟨rfl, rfl⟩ := hzz
        obtain ⟨B2, G2, hI2, hB2, hE2, henv, gs, g1, g2, ns, n1, n2, n3⟩ := finR_ok hsz ts rs st B G z s2 h hz
        have hv := hE2 _ _ (h.env t _ hl)
        simp only [EVR] at hv
        obtain ⟨d1, o1, u1, hd1, ho1, hvc, hva⟩ := hv
        have hd : lk n s2.pl = some d := hd
        have hd1 : lk n s2.pl = some d1 := hd1
        rw [hd] at hd1
        obtain rfl := Option.some.inj hd1
        simp only [offP, Option.some.injEq, Prod.mk.injEq] at ho1
        obtain ⟨rfl, rfl⟩ := ho1
        obtain ⟨hR, hA⟩ := hI2.pl n d hd
        have hl1 := Rel_length w B2 _ _ _ _ hR
        have hcc : (G2 n).cells = (tv a t).cells.toList := by rw [hvc, List.drop_zero, ← hl1, List.take_length]
        refine ⟨B2, G2, hI2, hB2, hE2, henv, (tv a t, ⟨none, (G2 n).cells, (G2 n).F⟩) :: gs, by simp [g1], ?_, some n :: ns, by simp [n1, resNames, hl], by simp [n2], ?_⟩
        · refine ⟨_, _, gs, rfl, ⟨rfl, hcc, ⟨cv_rel d.ty τ f hf d.val _ _ hR, trivial⟩, by rw [hva]; exact cv_agg d.ty τ f hf⟩, g2⟩
        · intro i q m hq hm
          cases i with
          | zero =>
            obtain rfl : _ = q := by simpa using hq
            obtain rfl : some n = m := by simpa using hm
            exact ⟨hev, F_sub (G2 n), d, hd⟩
          | succ i => exact n3 i q m (by simpa using hq) (by simpa using hm)
      · cases he
    · rename_i d
      obtain ⟨f, hf, he⟩ := bind_some he
      obtain ⟨⟨z, s2⟩, hz, hzz⟩ := Option.map_eq_some_iff.1 he
      simp only [Prod.mk.injEq] at hzz
      obtain ⟨rfl, rfl⟩ := hzz
      obtain ⟨B2, G2, hI2, hB2, hE2, henv, gs, g1, g2, ns, n1, n2, n3⟩ := finR_ok hsz ts rs st B G z s2 h hz
      have hv := hE2 _ _ (h.env t _ hl)
      simp only [EVR] at hv
      refine ⟨B2, G2, hI2, hB2, hE2, henv, (tv a t, ⟨none, (tv a t).cells.toList, []⟩) :: gs, by simp [g1], ?_, none :: ns, by simp [n1, resNames, hl], by simp [n2], ?_⟩
      · exact ⟨_, _, gs, rfl, ⟨rfl, rfl, ⟨cv_rel d.ty τ f hf d.val _ _ hv.2.1, trivial⟩, by rw [hv.2.2]; exact cv_agg d.ty τ f hf⟩, g2⟩
      · intro i q m hq hm
        cases i with
        | zero =>
          obtain rfl : _ = q := by simpa using hq
          obtain rfl : none = m := by simpa using hm
          rfl
        | succ i => exact n3 i q m (by simpa using hq) (by simpa using hm)
    · cases he
  | t :: ts, .ptr τ :: rs, st, B, G, x, sf, h, he => by
    simp only [finR] at he
    obtain ⟨e, hl, he⟩ := bind_some he
    split at he
    · rename_i n
      split at he
      · rename_i hev
        have hev := Nat.eq_of_beq_eq_true hev
        obtain ⟨⟨z, s2⟩, hz, he⟩ := bind_some he
        obtain ⟨d, hd, he⟩ := bind_some he
        obtain ⟨f, hf, hzz⟩ := Option.map_eq_some_iff.1 he
        simp only [Prod.mk.injEq] at hzz
        obtain ⟨rfl, rfl⟩ := hzz
        obtain ⟨B2, G2, hI2, hB2, hE2, henv, gs, g1, g2, ns, n1, n2, n3⟩ := finR_ok hsz ts rs st B G z s2 h hz
        have hv := hE2 _ _ (h.env t _ hl)
        simp only [EVR] at hv
        obtain ⟨d1, o1, u1, b, off, hd1, ho1, hg, hvv⟩ := hv
        have hd : lk n s2.pl = some d := hd
        have hd1 : lk n s2.pl = some d1 := hd1
        rw [hd] at hd1
        obtain rfl := Option.some.inj hd1
        simp only [offP, Option.some.injEq, Prod.mk.injEq] at ho1
        obtain ⟨rfl, rfl⟩ := ho1
        obtain ⟨hR, hA⟩ := hI2.pl n d hd
        refine ⟨B2, G2, hI2, hB2, hE2, henv, (tv a t, G2 n) :: gs, by simp [g1], ?_, some n :: ns, by simp [n1, resNames, hl], by simp [n2], ?_⟩
        · exact ⟨_, _, gs, rfl, ⟨b, off, hg, hvv, cv_rel d.ty τ f hf d.val _ _ hR, hA⟩, g2⟩
        · intro i q m hq hm
          cases i with
          | zero =>
            obtain rfl : _ = q := by simpa using hq
            obtain rfl : some n = m := by simpa using hm
            exact ⟨hev, List.Sublist.refl _, d, hd⟩
          | succ i => exact n3 i q m (by simpa using hq) (by simpa using hm)
      · cases he
    · cases he

/-- objects behind the body -/
theorem finO_ok (h : Inv X st a w B G) : ∀ (l : List Ty) (k : Nat) (x : ObjT l), finO st.pl k l = some x → ∀ (i : Nat) (d : Dyn), (objsL l x)[i]? = some d → PlR w B (G (objName (k + i))) d ∧ ∃ d0, lk (objName (k + i)) st.pl = some d0 ∧ d.ty.size = d0.ty.size
  | [], _, _, _, i, d, hd => by simp [objsL] at hd
  | τ :: l, k, x, he, i, d, hd => by
    simp only [finO] at he
    obtain ⟨d0, h0, he⟩ := bind_some he
    obtain ⟨f, hf, he⟩ := bind_some he
    obtain ⟨z, hz, rfl⟩ := Option.map_eq_some_iff.1 he
    cases i with
    | zero =>
      obtain rfl : _ = d := by simpa [objsL] using hd
      obtain ⟨hR, hA⟩ := h.pl _ d0 h0
      have hR2 := cv_rel d0.ty τ f hf d0.val _ _ hR
      refine ⟨⟨hR2, hA⟩, d0, h0, ?_⟩
      rw [← Rel_length w B _ _ _ _ hR2, ← Rel_length w B _ _ _ _ hR]
    | succ i =>
      have := finO_ok h l (k + 1) z hz i d (by simpa [objsL] using hd)
      rw [show k + (i + 1) = k + 1 + i by omega]
      exact this

theorem objsL_len : ∀ (l : List Ty) (x : ObjT l), (objsL l x).length = l.length
  | [], _ => rfl
  | _ :: l, x => by simp [objsL, objsL_len l x.2]


end
end
end Go.Pv
