/- A function's contract, from its body's plain run. -/
import Derived.Test.YtmjappidghjkjaaPvRun
namespace Go.Pv
noncomputable section
universe u v

/-! ### the entry -/
section
variable {w : World} {B : Nat → Prop}

/-- the frame's places, as the objects lie -/
def entG (os : Obs) : Nat → PG := fun n => match os[n / 2]? with | some x => x.2 | none => ⟨none, [], []⟩

theorem entG_obj {os : Obs} {k : Nat} {x : Dyn × PG} (h : os[k]? = some x) : entG os (objName k) = x.2 := by
  unfold entG objName
  rw [show (2 * k + 1) / 2 = k by omega, h]

theorem matchArgs_ok : ∀ (l : List AK) (avs : List AV) (x : ArgT l), matchArgs l avs = some x → ∀ (os : Obs) (vs : List Value), ARel w B avs os vs →
    vs.length = l.length ∧ os.length = nObj l ∧
    ∀ (i0 k0 : Nat) (tv : Nat → Value) (G : Nat → PG) (L : Look), (∀ i v, vs[i]? = some v → tv (i0 + i) = v) → (∀ k y, os[k]? = some y → G (objName (k0 + k)) = y.2) → (∀ k d, lk (objName k) (entP k0 l x) = some d → L (objName k) = some d) →
      (∀ t e, lk t (entE i0 k0 l x) = some e → i0 ≤ t ∧ EVR tv w B G L e (tv t)) ∧
      (∀ n d, lk n (entP k0 l x) = some d → ∃ k y, n = objName (k0 + k) ∧ os[k]? = some y ∧ d.ty.size = y.1.ty.size ∧ (PlR w B y.2 y.1 → PlR w B y.2 d)) ∧
      (∀ k, k < nObj l → ∃ d, lk (objName (k0 + k)) (entP k0 l x) = some d)
  | [], [], x, _, os, vs, ⟨h1, h2⟩ => by
    subst h1; subst h2
    exact ⟨rfl, rfl, fun i0 k0 tv G L _ _ _ => ⟨fun t e h => by simp [entE, lk] at h, fun n d h => by simp [entP, lk] at h, fun k h => by simp [nObj] at h⟩⟩
  | .val t :: l, .val d :: r, x, hm, os, _, ⟨v, rv, rfl, hp, hv, hA⟩ => by
    simp only [matchArgs] at hm
    split at hm
    · rename_i hpt
      obtain ⟨f, hf, hm⟩ := bind_some hm
      obtain ⟨z, hz, rfl⟩ := Option.map_eq_some_iff.1 hm
      obtain ⟨h1, h2, h3⟩ := matchArgs_ok l r z hz os rv hA
      refine ⟨by simp [h1], h2, fun i0 k0 tv G L htv hG hL => ?_⟩
      obtain ⟨k1, k2, k3⟩ := h3 (i0 + 1) k0 tv G L (fun i u hu => by rw [Nat.add_assoc, Nat.add_comm 1 i]; exact htv (i + 1) u (by simpa using hu)) hG hL
      refine ⟨fun s e he => ?_, k2, k3⟩
      simp only [entE, lk] at he
      by_cases es : s = i0
      · subst es
        simp only [Nat.beq_refl, cond_true, Option.some.injEq] at he
        subst he
        have := htv 0 v rfl
        rw [Nat.add_zero] at this
        simp only [EVR]
        rw [this]
        exact ⟨Nat.le_refl _, hpt, cv_rel d.ty t f hf d.val _ _ hv.1, by rw [hv.2]; exact cv_agg d.ty t f hf⟩
      · rw [beq_ne es] at he
        obtain ⟨m1, m2⟩ := k1 s e he
        exact ⟨by omega, m2⟩
    · cases hm
  | .ref t :: l, .ref d :: r, x, hm, os, _, ⟨v, rv, rfl, ⟨hp, b, o, cells, e1, e2, e3, e4⟩, hA⟩ => by
    simp only [matchArgs] at hm
    split at hm
    · rename_i hpt
      obtain ⟨f, hf, hm⟩ := bind_some hm
      obtain ⟨z, hz, rfl⟩ := Option.map_eq_some_iff.1 hm
      obtain ⟨h1, h2, h3⟩ := matchArgs_ok l r z hz os rv hA
      refine ⟨by simp [h1], h2, fun i0 k0 tv G L htv hG hL => ?_⟩
      obtain ⟨k1, k2, k3⟩ := h3 (i0 + 1) k0 tv G L (fun i u hu => by rw [Nat.add_assoc, Nat.add_comm 1 i]; exact htv (i + 1) u (by simpa using hu)) hG hL
      refine ⟨fun s e he => ?_, k2, k3⟩
      simp only [entE, lk] at he
      by_cases es : s = i0
      · subst es
        simp only [Nat.beq_refl, cond_true, Option.some.injEq] at he
        subst he
        have := htv 0 v rfl
        rw [Nat.add_zero] at this
        simp only [EVR]
        rw [this]
        exact ⟨Nat.le_refl _, hpt, b, o, cells, e1, e2, e3, cv_rel d.ty t f hf d.val _ _ e4⟩
      · rw [beq_ne es] at he
        obtain ⟨m1, m2⟩ := k1 s e he
        exact ⟨by omega, m2⟩
    · cases hm
  | .fnc f :: l, .fn g [] :: r, x, hm, os, _, ⟨v, rv, rfl, _, hv, hA⟩ => by
    simp only [matchArgs] at hm
    split at hm
    · rename_i hfg
      obtain rfl := Nat.eq_of_beq_eq_true hfg
      obtain ⟨h1, h2, h3⟩ := matchArgs_ok l r x hm os rv hA
      refine ⟨by simp [h1], h2, fun i0 k0 tv G L htv hG hL => ?_⟩
      obtain ⟨k1, k2, k3⟩ := h3 (i0 + 1) k0 tv G L (fun i u hu => by rw [Nat.add_assoc, Nat.add_comm 1 i]; exact htv (i + 1) u (by simpa using hu)) hG hL
      refine ⟨fun s e he => ?_, k2, k3⟩
      simp only [entE, lk] at he
      by_cases es : s = i0
      · subst es
        simp only [Nat.beq_refl, cond_true, Option.some.injEq] at he
        subst he
        have := htv 0 v rfl
        rw [Nat.add_zero] at this
        simp only [EVR, EVRL]
        rw [this]
        exact ⟨Nat.le_refl _, #[], hv, rfl⟩
      · rw [beq_ne es] at he
        obtain ⟨m1, m2⟩ := k1 s e he
        exact ⟨by omega, m2⟩
    · cases hm
  | .obj t :: l, .obj d :: r, x, hm, _, _, ⟨v, rv, g, os', rfl, rfl, ⟨b, o, hg, hv⟩, hA⟩ => by
    simp only [matchArgs] at hm
    split at hm
    · rename_i hsk
      obtain ⟨f, hf, hm⟩ := bind_some hm
      obtain ⟨z, hz, rfl⟩ := Option.map_eq_some_iff.1 hm
      obtain ⟨h1, h2, h3⟩ := matchArgs_ok l r z hz os' rv hA
      refine ⟨by simp [h1], by simp [h2, nObj], fun i0 k0 tv G L htv hG hL => ?_⟩
      have hentne : ∀ (l : List AK) (x : ArgT l) (k1 k : Nat), k < k1 → lk (objName k) (entP k1 l x) = none := by
        intro l
        induction l with
        | nil => intro x k1 k _; rfl
        | cons a l ih =>
          intro x k1 k hk
          cases a with
          | val t => exact ih x.2 k1 k hk
          | ref t => exact ih x.2 k1 k hk
          | fnc f => exact ih x k1 k hk
          | obj t =>
            simp only [entP, lk]
            rw [beq_ne (by unfold objName; omega)]
            exact ih x.2 (k1 + 1) k (by omega)
      obtain ⟨k1, k2, k3⟩ := h3 (i0 + 1) (k0 + 1) tv G L (fun i u hu => by rw [Nat.add_assoc, Nat.add_comm 1 i]; exact htv (i + 1) u (by simpa using hu))
        (fun k y hy => by rw [Nat.add_assoc, Nat.add_comm 1 k]; exact hG (k + 1) y (by simpa using hy))
        (fun k d' hd' => hL k d' (by
          simp only [entP, lk]
          by_cases e : k = k0
          · rw [e] at hd'; rw [hentne l z (k0 + 1) k0 (by omega)] at hd'; cases hd'
          · rw [beq_ne (by unfold objName; omega)]; exact hd'))
      have hL0 := hL k0 ⟨t, f d.val⟩ (by simp [entP, lk])
      have hG0 := hG 0 (d, g) rfl
      rw [Nat.add_zero] at hG0
      refine ⟨fun s e he => ?_, fun n d' hd' => ?_, fun k hk => ?_⟩
      · simp only [entE, lk] at he
        by_cases es : s = i0
        · subst es
          simp only [Nat.beq_refl, cond_true, Option.some.injEq] at he
          subst he
          have := htv 0 v rfl
          rw [Nat.add_zero] at this
          simp only [EVR]
          rw [this]
          exact ⟨Nat.le_refl _, _, 0, _, b, o, hL0, rfl, by rw [hG0]; exact hg, hv⟩
        · rw [beq_ne es] at he
          obtain ⟨m1, m2⟩ := k1 s e he
          exact ⟨by omega, m2⟩
      · simp only [entP, lk] at hd'
        by_cases e : n = objName k0
        · subst e
          simp only [Nat.beq_refl, cond_true, Option.some.injEq] at hd'
          subst hd'
          exact ⟨0, (d, g), rfl, rfl, (size_of_sk hsk).symm, fun hp => ⟨cv_rel d.ty t f hf d.val _ _ hp.1, hp.2⟩⟩
        · rw [beq_ne e] at hd'
          obtain ⟨k, y, m1, m2, m3⟩ := k2 n d' hd'
          exact ⟨k + 1, y, by rw [m1]; congr 1; omega, by simpa using m2, m3⟩
      · simp only [entP, lk]
        cases k with
        | zero => exact ⟨_, by rw [Nat.add_zero, Nat.beq_refl]; rfl⟩
        | succ k =>
          obtain ⟨d', hd'⟩ := k3 k (by simp only [nObj] at hk; omega)
          refine ⟨d', ?_⟩
          rw [beq_ne (by unfold objName; omega), show k0 + (k + 1) = k0 + 1 + k by omega]
          exact hd'
    · cases hm
  | [], _ :: _, _, hm, _, _, _ => by simp [matchArgs] at hm
  | _ :: _, [], _, hm, _, _, _ => by simp [matchArgs] at hm
  | .val _ :: _, .obj _ :: _, _, hm, _, _, _ => by simp [matchArgs] at hm
  | .val _ :: _, .ref _ :: _, _, hm, _, _, _ => by simp [matchArgs] at hm
  | .val _ :: _, .fn _ _ :: _, _, hm, _, _, _ => by simp [matchArgs] at hm
  | .obj _ :: _, .val _ :: _, _, hm, _, _, _ => by simp [matchArgs] at hm
  | .obj _ :: _, .ref _ :: _, _, hm, _, _, _ => by simp [matchArgs] at hm
  | .obj _ :: _, .fn _ _ :: _, _, hm, _, _, _ => by simp [matchArgs] at hm
  | .ref _ :: _, .val _ :: _, _, hm, _, _, _ => by simp [matchArgs] at hm
  | .ref _ :: _, .obj _ :: _, _, hm, _, _, _ => by simp [matchArgs] at hm
  | .ref _ :: _, .fn _ _ :: _, _, hm, _, _, _ => by simp [matchArgs] at hm
  | .fnc _ :: _, .val _ :: _, _, hm, _, _, _ => by simp [matchArgs] at hm
  | .fnc _ :: _, .obj _ :: _, _, hm, _, _, _ => by simp [matchArgs] at hm
  | .fnc _ :: _, .ref _ :: _, _, hm, _, _, _ => by simp [matchArgs] at hm
  | .fnc _ :: _, .fn _ (_ :: _) :: _, _, hm, _, _, _ => by simp [matchArgs] at hm

theorem obs_disj {os : Obs} (hn : os.ob.Nodup) {i j : Nat} {x y : Dyn × PG} (hx : os[i]? = some x) (hy : os[j]? = some y) (hne : i ≠ j) : ∀ b ∈ x.2.blocks, b ∉ y.2.blocks :=
  flatMap_disj (f := fun x : Dyn × PG => x.2.blocks) hn hx hy hne

/-- the frame at a call's beginning -/
theorem entry_ok {P : Program} {nt : Nat} {l : List AK} {avs : List AV} {x : ArgT l} (hm : matchArgs l avs = some x) {os : Obs} {vs : List Value} (hent : Ent w B os) (hA : ARel w B avs os vs) (hle : l.length ≤ nt) :
    Inv ⟨P, nt, w, B, os.ob, fun k => (os[k]?).bind fun x => x.2.addr.map fun q => (q.1, q.2, x.1.ty.size)⟩ (entry l x) { tmps := vs.toArray ++ Array.replicate (nt - vs.toArray.size) undef, defers := [] } w B (entG os) := by
  obtain ⟨h1, h2, h3⟩ := matchArgs_ok l avs x hm os vs hA
  obtain ⟨k1, k2, k3⟩ := h3 0 0 (tv { tmps := vs.toArray ++ Array.replicate (nt - vs.toArray.size) undef, defers := [] }) (entG os) (look (entry l x))
    (fun i v hv => by
      rw [Nat.zero_add]
      have hi := (List.getElem?_eq_some_iff.1 hv).1
      simp only [tv, Array.getD_eq_getD_getElem?]
      rw [Array.getElem?_append_left (by simpa using hi)]
      simp [hv])
    (fun k y hy => by rw [Nat.zero_add]; exact entG_obj hy) (fun k d hd => hd)
  refine ⟨rfl, ?_, hent.bsz, fun _ h => h, fun b _ h => .inl h, fun t e he => (k1 t e he).2, fun n d hd => ?_, fun n d hd => ?_, fun n m d d' hd hd' hne => ?_, Nat.le_refl _, fun _ _ _ => rfl, ⟨rfl, rfl, rfl⟩, fun k d hd => ?_, fun k b o s ho => ?_, fun k b o s ho => ?_, fun _ _ _ _ _ _ _ => rfl⟩
  · simp only [Array.size_append, List.size_toArray, Array.size_replicate]
    omega
  · obtain ⟨k, y, rfl, hy, _, hp⟩ := k2 n d hd
    rw [Nat.zero_add, entG_obj hy]
    exact hp (hent.pl y (List.mem_of_getElem? hy))
  · obtain ⟨k, y, rfl, hy, _, hp⟩ := k2 n d hd
    rw [Nat.zero_add, entG_obj hy]
    refine ⟨flatMap_nodup_of (f := fun x : Dyn × PG => x.2.blocks) hent.nd hy, fun b hb => ⟨hent.sep y (List.mem_of_getElem? hy) b hb, fun _ => ?_⟩⟩
    exact Obs.mem_ob.2 ⟨y, List.mem_of_getElem? hy, hb⟩
  · obtain ⟨k, y, rfl, hy, _, _⟩ := k2 n d hd
    obtain ⟨k', y', rfl, hy', _, _⟩ := k2 m d' hd'
    rw [Nat.zero_add, Nat.zero_add, entG_obj hy, entG_obj hy']
    exact obs_disj hent.nd hy hy' (fun e => hne (by rw [e]))
  · obtain ⟨k', y, he, hy, hsz, _⟩ := k2 _ d hd
    rw [Nat.zero_add] at he
    have : k = k' := by unfold objName at he; omega
    subst this
    obtain ⟨q, hq⟩ := hent.addr y (List.mem_of_getElem? hy)
    refine ⟨q.1, q.2, y.1.ty.size, by simp only [hy, Option.bind_some, hq, Option.map_some], by rw [entG_obj hy]; exact hq, hsz⟩
  · obtain ⟨y, hy, ho⟩ := bind_some ho
    obtain ⟨q, hq, ho⟩ := Option.map_eq_some_iff.1 ho
    simp only [Prod.mk.injEq] at ho
    obtain ⟨rfl, rfl, rfl⟩ := ho
    have hp := (hent.pl y (List.mem_of_getElem? hy)).2
    rw [hq] at hp
    obtain ⟨_, c, hc⟩ := hp
    exact hc.lt
  · obtain ⟨y, hy, ho⟩ := bind_some ho
    have := k3 k (by rw [← h2]; exact (List.getElem?_eq_some_iff.1 hy).1)
    rw [Nat.zero_add] at this
    exact this

/-! ### the end -/
theorem nodup_flat {α : Type} {f : α → List Nat} : ∀ {l : List α}, (∀ (k : Nat) g, l[k]? = some g → (f g).Nodup) → (∀ (k k' : Nat) g g', l[k]? = some g → l[k']? = some g' → k ≠ k' → ∀ b ∈ f g, b ∈ f g' → False) → (l.flatMap f).Nodup
  | [], _, _ => List.nodup_nil
  | x :: l, h1, h2 => by
    rw [List.flatMap_cons]
    refine List.nodup_append.2 ⟨h1 0 x rfl, nodup_flat (fun k g hg => h1 (k + 1) g (by simpa using hg)) (fun k k' g g' hg hg' hne => h2 (k + 1) (k' + 1) g g' (by simpa using hg) (by simpa using hg') (by omega)), fun b hb b' hb' e => ?_⟩
    subst e
    obtain ⟨y, hy, hby⟩ := List.mem_flatMap.1 hb'
    obtain ⟨k, hk⟩ := List.getElem?_of_mem hy
    exact h2 0 (k + 1) x y rfl (by simpa using hk) (by omega) b hb hby

theorem filterMap_idx {n : Nat} : ∀ {ns : List (Option Nat)}, (ns.filterMap id).Nodup → ∀ {i j : Nat}, ns[i]? = some (some n) → ns[j]? = some (some n) → i ≠ j → False
  | [], _, i, _, h, _, _ => by simp at h
  | x :: ns, hn, i, j, hi, hj, hne => by
    have hrest : (ns.filterMap id).Nodup := by
      cases x with
      | none => simpa using hn
      | some m => exact (List.nodup_cons.1 (by simpa using hn)).2
    have hnot : ∀ k : Nat, ns[k]? = some (some n) → x = some n → False := by
      intro k hk hx
      subst hx
      have : (n :: ns.filterMap id).Nodup := by simpa using hn
      exact (List.nodup_cons.1 this).1 (List.mem_filterMap.2 ⟨some n, List.mem_of_getElem? hk, rfl⟩)
    cases i with
    | zero =>
      have hx : x = some n := by simpa using hi
      cases j with
      | zero => exact hne rfl
      | succ j => exact hnot j (by simpa using hj) hx
    | succ i =>
      cases j with
      | zero => exact hnot i (by simpa using hi) (by simpa using hj)
      | succ j => exact filterMap_idx hrest (by simpa using hi) (by simpa using hj) (by omega)

theorem run_results {P : Program} {fn : Func} {ts : List Nat} (hres : fn.results = (ts.map ResultVar.tmp).toArray) (a : Act) (w : World) :
    (results fn a.tmps).run P w = .ok (match ts.map (tv a) with | [v] => v | l => .tuple l.toArray) w := by
  have key : ∀ (F : ResultVar → Sem Value), (∀ t, F (.tmp t) = pure (a.tmps.getD t undef)) → ∀ (ts : List Nat), ((ts.map ResultVar.tmp).mapM F).run P w = .ok (ts.map (tv a)) w := by
    intro F hF ts
    induction ts with
    | nil => rfl
    | cons t ts ih => simp only [List.map_cons, List.mapM_cons, Sem.run_bind, hF, Sem.run_pure, Result.andThen_ok, ih]; rfl
  unfold results
  rw [hres]
  simp only [List.mapM_toArray, Sem.run_bind, Sem.run_map]
  rw [key _ (by intro t; rfl) ts]
  simp only [Result.andThen_ok, Sem.run_pure]
  generalize ts.map (tv a) = l
  match l with
  | [] => rfl
  | [v] => rfl
  | v :: u :: l => simp

/-- a function does what its body's plain run gives -/
theorem contract_of {C : Cfg} (hΓ : ∀ f sem, C.Γ f = some sem → Contract C.P f sem) {S : Sig} {f : Nat} {fn : Func} {c : Code} {ts : List Nat} (hf : C.P.funcs[f]? = some fn) (hname : (fn.name == "runtime.NumGoroutine") = false) (hbody : fn.body = some c)
    (hres : fn.results = (ts.map ResultVar.tmp).toArray) (hnt : fn.ntmps = C.nt) (hle : Nat.ble S.args.length C.nt = true) (hob : C.nob = nObj S.args) (hobs : S.outs.length = C.nob)
    {F : ArgT S.args → Option (ResT S.res × ObjT S.outs)} (hF : ∀ x, runF C S c ts x = F x) : Contract C.P f (mkSem S F) := by
  refine ⟨⟨fn, hf, hname, by rw [hbody]; rfl⟩, ?_⟩
  intro avs s hs r hr w B os vs hent hA
  obtain ⟨x, hx, rfl⟩ := Option.map_eq_some_iff.1 hs
  have hr : F x = some r := hr
  have hle : S.args.length ≤ C.nt := Nat.le_of_ble_eq_true hle
  have hI := entry_ok (P := C.P) hx hent hA hle
  obtain ⟨hvl, hol, _⟩ := matchArgs_ok S.args avs x hx os vs hA
  rw [← hF x] at hr
  refine calls_of_wp hf hbody ?_
  rw [hnt]
  have hfin : ∀ st a w' B' G', Inv ⟨C.P, C.nt, w, B, os.ob, fun k => (os[k]?).bind fun x => x.2.addr.map fun q => (q.1, q.2, x.1.ty.size)⟩ st a w' B' G' → fin S ts st = some r →
      a.defers = [] ∧ ∃ v, (results fn a.tmps).run C.P w' = .ok v w' ∧ ∃ B' gs rs, Lvs w B os (resL S.res r.1) (objsL S.outs r.2) v w' B' gs rs := by
    intro st a w' B' G' h he
    refine ⟨h.defers, _, run_results hres a w', ?_⟩
    unfold fin at he
    split at he
    · rename_i hnd
      have hnd := nodupN_ok _ hnd
      obtain ⟨⟨z, sf⟩, hz, he⟩ := bind_some he
      obtain ⟨o, ho, rfl⟩ := Option.map_eq_some_iff.1 he
      obtain ⟨B2, G2, hI2, hB2, hE2, henv, rs, g1, g2, ns, n1, n2, n3⟩ := finR_ok h.size ts S.res st B' G' z sf h hz
      have hO := finO_ok hI2 S.outs 0 o ho
      let gs : List PG := (List.range os.length).map fun k => G2 (objName k)
      have hgs : ∀ k : Nat, k < os.length → gs[k]? = some (G2 (objName k)) := by
        intro k hk
        show ((List.range os.length).map fun k => G2 (objName k))[k]? = _
        rw [List.getElem?_map, List.getElem?_range hk]; rfl
      have hos : ∀ (k : Nat) (y : Dyn × PG), os[k]? = some y → ∃ b o, y.2.addr = some (b, o) ∧ (G2 (objName k)).addr = some (b, o) ∧ ∃ d, lk (objName k) sf.pl = some d ∧ d.ty.size = y.1.ty.size := by
        intro k y hy
        obtain ⟨q, hq⟩ := hent.addr y (List.mem_of_getElem? hy)
        have hoa : ((os[k]?).bind fun x => x.2.addr.map fun q => (q.1, q.2, x.1.ty.size)) = some (q.1, q.2, y.1.ty.size) := by simp only [hy, Option.bind_some, hq, Option.map_some]
        obtain ⟨d, hd⟩ := hI2.objL k _ _ _ hoa
        obtain ⟨b, o', s', m1, m2, m3⟩ := hI2.obj k d hd
        have m1 : ((os[k]?).bind fun x => x.2.addr.map fun q => (q.1, q.2, x.1.ty.size)) = some (b, o', s') := m1
        rw [hoa] at m1
        simp only [Option.some.injEq, Prod.mk.injEq] at m1
        obtain ⟨rfl, rfl, rfl⟩ := m1
        exact ⟨q.1, q.2, hq, m2, d, hd, m3⟩
      have hols : S.outs.length = os.length := by rw [hobs, hob, hol]
      refine ⟨B2, gs, rs, ?_, ?_, g2, ?_, ?_, hI2.size, hI2.rest, fun b hb => ⟨hI2.old b (hent.bsz b hb) (fun ho => ?_), hI2.b0 b hb⟩, hI2.bsz, hI2.bold, hI2.old, ?_⟩
      · -- the value
        have hl : rs.map (·.1) = ts.map (tv a) := g1
        rw [← hl]
        match rs with
        | [] => rfl
        | [q] => rfl
        | q1 :: q2 :: rs => rfl
      · -- the objects
        have key : ∀ (os' : Obs) (k0 : Nat) (ds : List Dyn) (gs' : List PG), (∀ k y, os'[k]? = some y → os[k0 + k]? = some y) → ds.length = os'.length → (∀ k d, ds[k]? = some d → (objsL S.outs o)[k0 + k]? = some d) → gs'.length = os'.length → (∀ k g, gs'[k]? = some g → gs[k0 + k]? = some g) → OsRel w' B2 os' ds gs' := by
          intro os'
          induction os' with
          | nil =>
            intro k0 ds gs' _ hl _ hl2 _
            exact ⟨List.eq_nil_of_length_eq_zero hl, List.eq_nil_of_length_eq_zero hl2⟩
          | cons y os' ih =>
            intro k0 ds gs' h1 hl h2 hl2 h3
            cases ds with
            | nil => simp at hl
            | cons d ds =>
              cases gs' with
              | nil => simp at hl2
              | cons g gs' =>
                have hy := h1 0 y rfl
                have hd := h2 0 d rfl
                have hg := h3 0 g rfl
                rw [Nat.add_zero] at hy hd hg
                obtain ⟨b, o', a1, a2, d0, a3, a4⟩ := hos k0 y hy
                have hk0 := (List.getElem?_eq_some_iff.1 hy).1
                rw [hgs k0 hk0] at hg
                obtain rfl := Option.some.inj hg
                obtain ⟨m1, d1, m2, m3⟩ := hO k0 d hd
                rw [Nat.zero_add] at m1 m2
                rw [a3] at m2
                obtain rfl := Option.some.inj m2
                refine ⟨d, _, ds, gs', rfl, rfl, m1, by rw [a2, a1], by rw [m3, a4], ih (k0 + 1) ds gs' (fun k y hy => ?_) (by simpa using hl) (fun k d hd => ?_) (by simpa using hl2) (fun k g hg => ?_)⟩
                · rw [show k0 + 1 + k = k0 + (k + 1) by omega]; exact h1 (k + 1) y (by simpa using hy)
                · rw [show k0 + 1 + k = k0 + (k + 1) by omega]; exact h2 (k + 1) d (by simpa using hd)
                · rw [show k0 + 1 + k = k0 + (k + 1) by omega]; exact h3 (k + 1) g (by simpa using hg)
        refine key os 0 _ gs (fun k y hy => by rw [Nat.zero_add]; exact hy) (by rw [objsL_len, hols]) (fun k d hd => by rw [Nat.zero_add]; exact hd) (by simp [gs]) (fun k g hg => by rw [Nat.zero_add]; exact hg)
      · -- blocks are apart
        have hgsn : ∀ k g, gs[k]? = some g → k < os.length ∧ g = G2 (objName k) ∧ ∃ d, lk (objName k) sf.pl = some d := by
          intro k g hg
          have hk : k < os.length := by have := (List.getElem?_eq_some_iff.1 hg).1; simpa [gs] using this
          rw [hgs k hk] at hg
          obtain ⟨_, _, _, _, d, hd, _⟩ := hos k _ (List.getElem?_eq_getElem hk)
          exact ⟨hk, (Option.some.inj hg).symm, d, hd⟩
        have hrsn : ∀ (i : Nat) (q : Value × PG), rs[i]? = some q → q.2.blocks = [] ∨ ∃ n, ns[i]? = some (some n) ∧ n % 2 = 0 ∧ q.2.blocks.Sublist (G2 n).blocks ∧ ∃ d, lk n sf.pl = some d := by
          intro i q hq
          have hi : i < ns.length := by rw [← n2]; exact (List.getElem?_eq_some_iff.1 hq).1
          have := n3 i q _ hq (List.getElem?_eq_getElem hi)
          cases hm : ns[i] with
          | none => rw [hm] at this; exact .inl this
          | some n => rw [hm] at this; exact .inr ⟨n, by rw [List.getElem?_eq_getElem hi, hm], this⟩
        refine List.nodup_append.2 ⟨?_, ?_, ?_⟩
        · refine nodup_flat (fun k g hg => ?_) (fun k k' g g' hg hg' hne b hb hb' => ?_)
          · obtain ⟨_, rfl, d, hd⟩ := hgsn k g hg
            exact (hI2.sep _ d hd).1
          · obtain ⟨_, rfl, d, hd⟩ := hgsn k g hg
            obtain ⟨_, rfl, d', hd'⟩ := hgsn k' g' hg'
            exact hI2.apart _ _ d d' hd hd' (by unfold objName; omega) b hb hb'
        · refine nodup_flat (fun k g hg => ?_) (fun k k' g g' hg hg' hne b hb hb' => ?_)
          · rcases hrsn k g hg with h | ⟨n, _, _, h2, d, hd⟩
            · rw [h]; exact List.nodup_nil
            · exact h2.nodup (hI2.sep n d hd).1
          · rcases hrsn k g hg with h | ⟨n, e1, _, h2, d, hd⟩
            · rw [h] at hb; cases hb
            · rcases hrsn k' g' hg' with h | ⟨n', e1', _, h2', d', hd'⟩
              · rw [h] at hb'; cases hb'
              · have hnn : n ≠ n' := by
                  intro e
                  subst e
                  rw [← n1] at hnd
                  exact filterMap_idx hnd e1 e1' hne
                exact hI2.apart n n' d d' hd hd' hnn b (h2.subset hb) (h2'.subset hb')
        · intro b hb b' hb' e
          subst e
          obtain ⟨g, hg, hbg⟩ := List.mem_flatMap.1 hb
          obtain ⟨q, hq, hbq⟩ := List.mem_flatMap.1 hb'
          obtain ⟨k, hk⟩ := List.getElem?_of_mem hg
          obtain ⟨i, hi⟩ := List.getElem?_of_mem hq
          obtain ⟨_, rfl, d, hd⟩ := hgsn k g hk
          rcases hrsn i q hi with h | ⟨n, _, ev, h2, d', hd'⟩
          · rw [h] at hbq; cases hbq
          · exact hI2.apart _ n d d' hd hd' (by unfold objName; omega) b hbg (h2.subset hbq)
      · intro b hb
        rcases List.mem_append.1 hb with hb | hb
        · obtain ⟨g, hg, hbg⟩ := List.mem_flatMap.1 hb
          obtain ⟨k, hk⟩ := List.getElem?_of_mem hg
          have hkl : k < os.length := by have := (List.getElem?_eq_some_iff.1 hk).1; simpa [gs] using this
          rw [hgs k hkl] at hk
          obtain rfl := Option.some.inj hk
          obtain ⟨_, _, _, _, d, hd, _⟩ := hos k _ (List.getElem?_eq_getElem hkl)
          exact (hI2.sep _ d hd).2 b hbg
        · obtain ⟨q, hq, hbq⟩ := List.mem_flatMap.1 hb
          obtain ⟨i, hi⟩ := List.getElem?_of_mem hq
          have hin : i < ns.length := by rw [← n2]; exact (List.getElem?_eq_some_iff.1 hi).1
          have := n3 i q _ hi (List.getElem?_eq_getElem hin)
          cases hm : ns[i] with
          | none => rw [hm] at this; have this : q.2.blocks = [] := this; rw [this] at hbq; cases hbq
          | some n =>
            rw [hm] at this
            obtain ⟨_, h2, d, hd⟩ := this
            exact (hI2.sep n d hd).2 b (h2.subset hbq)
      · obtain ⟨y, hy, hby⟩ := Obs.mem_ob.1 ho
        exact hent.sep y hy b hby hb
      · intro y hy b o' hya i hi
        obtain ⟨k, hk⟩ := List.getElem?_of_mem hy
        exact hI2.objR k b o' y.1.ty.size (by simp only [hk, Option.bind_some, hya, Option.map_some]) i hi
    · cases he
  refine evalCode_ok (X := ⟨C.P, C.nt, w, B, os.ob, fun k => (os[k]?).bind fun x => x.2.addr.map fun q => (q.1, q.2, x.1.ty.size)⟩) (C := C) rfl rfl ?_ hΓ c 0 _ (fin S ts) [] (fin S ts) r _ _ w B (entG os) hI ⟨?_, ?_, ?_⟩ hr
  · intro k hk
    have : os[k]? = none := List.getElem?_eq_none (by rw [hol, ← hob]; exact hk)
    simp only [this, Option.bind_none]
  · intro st a w' B' G' h he
    exact hfin st a w' B' G' h he
  · intro id k hx; cases hx
  · intro st a w' B' G' h he
    exact hfin st a w' B' G' h he

end
end
end Go.Pv
