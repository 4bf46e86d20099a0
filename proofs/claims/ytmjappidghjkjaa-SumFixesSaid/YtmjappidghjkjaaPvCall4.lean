/- A call by its contract: the results, and the operation. -/
import Derived.Test.YtmjappidghjkjaaPvCall3
namespace Go.Pv
noncomputable section
universe u v

section
variable {X : Cx} {st : St} {a : Act} {w : World} {B : Nat → Prop} {G : Nat → PG} {E : Operand → Option EV}

theorem nameOf_inj {dst i j : Nat} (h : nameOf dst i = nameOf dst j) : i = j := by unfold nameOf at h; omega

theorem backRs_names (dst : Nat) : ∀ (rvs : List RV) (i n : Nat), n ∈ updNames (backRs dst i rvs).2 → ∃ j, i ≤ j ∧ n = nameOf dst j
  | [], _, _, h => by cases h
  | .val d :: l, i, n, h => by
    obtain ⟨j, h1, h2⟩ := backRs_names dst l (i + 1) n h
    exact ⟨j, by omega, h2⟩
  | .own d :: l, i, n, h => by
    simp only [backRs, updNames, List.map_cons, List.mem_cons] at h
    rcases h with h | h
    · exact ⟨i, Nat.le_refl _, h⟩
    · obtain ⟨j, h1, h2⟩ := backRs_names dst l (i + 1) n h
      exact ⟨j, by omega, h2⟩
  | .ptr d :: l, i, n, h => by
    simp only [backRs, updNames, List.map_cons, List.mem_cons] at h
    rcases h with h | h
    · exact ⟨i, Nat.le_refl _, h⟩
    · obtain ⟨j, h1, h2⟩ := backRs_names dst l (i + 1) n h
      exact ⟨j, by omega, h2⟩

/-- the results' places -/
theorem stageB (dst : Nat) : ∀ (rvs : List RV) (rs : List (Value × PG)) (i : Nat) (st : St) (G : Nat → PG), Inv X st a w B G → RsRel w B rvs rs → (rs.flatMap fun x => x.2.blocks).Nodup →
    (∀ b ∈ rs.flatMap (fun x => x.2.blocks), ¬ B b ∧ (b < X.w0.heap.size → b ∈ X.ob)) → (∀ b ∈ rs.flatMap (fun x => x.2.blocks), ∀ n d, lk n st.pl = some d → b ∉ (G n).blocks) →
    ∃ G', Inv X (applyU (backRs dst i rvs).2 st) a w B G' ∧ EVRL (tv a) w B G' (look (applyU (backRs dst i rvs).2 st)) (backRs dst i rvs).1 (rs.map (·.1)) ∧ ∀ n, n ∉ updNames (backRs dst i rvs).2 → G' n = G n
  | [], rs, i, st, G, h, hr, _, _, _ => by
    have hr : rs = [] := hr
    subst hr
    exact ⟨G, h, by simp [backRs, EVRL], fun _ _ => rfl⟩
  | rv :: rvs, _, i, st, G, h, ⟨v, g, rs, rfl, h1, hr⟩, hnd, hsep, hap => by
    rw [List.flatMap_cons] at hnd
    obtain ⟨nd1, nd2, nd3⟩ := List.nodup_append.1 hnd
    have hsep2 : ∀ b ∈ rs.flatMap (fun x => x.2.blocks), ¬ B b ∧ (b < X.w0.heap.size → b ∈ X.ob) := fun b hb => hsep b (by rw [List.flatMap_cons]; exact List.mem_append.2 (.inr hb))
    have hap2 : ∀ b ∈ rs.flatMap (fun x => x.2.blocks), ∀ n d, lk n st.pl = some d → b ∉ (G n).blocks := fun b hb => hap b (by rw [List.flatMap_cons]; exact List.mem_append.2 (.inr hb))
    have hnew : ∀ (d : Dyn), PlR w B g d → Inv X (applyU [(nameOf dst i, .new d)] st) a w B (setG G (nameOf dst i) g) := fun d hpl =>
      h.newPl (g := g) (Nat.le_refl _) ⟨rfl, rfl, rfl⟩ (fun _ _ _ => rfl) (nameOf_even dst i) hpl nd1 (fun b hb => hsep b (by rw [List.flatMap_cons]; exact List.mem_append.2 (.inl hb))) (fun b hb m d' hm => hap b (by rw [List.flatMap_cons]; exact List.mem_append.2 (.inl hb)) m d' hm)
    have rest : ∀ (d : Dyn) (e : EV), PlR w B g d → (backRs dst i (rv :: rvs)) = (e :: (backRs dst (i + 1) rvs).1, (nameOf dst i, .new d) :: (backRs dst (i + 1) rvs).2) →
        (∀ tv, EVR tv w B (setG G (nameOf dst i) g) (look (applyU [(nameOf dst i, .new d)] st)) e v) → (∀ n, e.hits n true = true → n = nameOf dst i) →
        ∃ G', Inv X (applyU (backRs dst i (rv :: rvs)).2 st) a w B G' ∧ EVRL (tv a) w B G' (look (applyU (backRs dst i (rv :: rvs)).2 st)) (backRs dst i (rv :: rvs)).1 (((v, g) :: rs).map (·.1)) ∧ ∀ n, n ∉ updNames (backRs dst i (rv :: rvs)).2 → G' n = G n := by
      intro d e hpl heq hev hhit
      have hap3 : ∀ b ∈ rs.flatMap (fun x => x.2.blocks), ∀ n d', lk n (applyU [(nameOf dst i, .new d)] st).pl = some d' → b ∉ (setG G (nameOf dst i) g n).blocks := by
        intro b hb n d' hd'
        have hd' : lk n (put (nameOf dst i) d st.pl) = some d' := hd'
        rw [lk_put] at hd'
        by_cases e : n = nameOf dst i
        · rw [e, setG_same]
          exact fun hg => nd3 b hg b hb rfl
        · rw [if_neg e] at hd'
          rw [setG_ne G g e]
          exact hap2 b hb n d' hd'
      obtain ⟨G', k1, k2, k3⟩ := stageB dst rvs rs (i + 1) (applyU [(nameOf dst i, .new d)] st) (setG G (nameOf dst i) g) (hnew d hpl) hr nd2 hsep2 hap3
      have hnot : nameOf dst i ∉ updNames (backRs dst (i + 1) rvs).2 := by
        intro hm
        obtain ⟨j, h1, h2⟩ := backRs_names dst rvs (i + 1) _ hm
        have := nameOf_inj h2
        omega
      rw [heq]
      refine ⟨G', k1, ?_, fun n hn => ?_⟩
      · simp only [EVRL, List.map_cons]
        refine ⟨v, _, rfl, ?_, k2⟩
        refine EVR_mono (fun b hb => ⟨rfl, hb⟩) e v (hev (tv a)) (fun n hn => ?_) (fun n hn => ?_)
        · have := hhit n hn
          subst this
          refine ⟨fun d0 hd0 => ⟨d0, ?_, rfl⟩, by rw [k3 _ hnot]⟩
          show lk _ (applyU (backRs dst (i + 1) rvs).2 (applyU [(nameOf dst i, .new d)] st)).pl = _
          rw [applyU_pl_other _ _ _ hnot]
          exact hd0
        · have := hhit n (hits_soft_hard e n hn)
          subst this
          rw [k3 _ hnot]
      · simp only [updNames, List.map_cons, List.mem_cons, not_or] at hn
        rw [k3 n hn.2, setG_ne G g hn.1]
    cases rv with
    | val d =>
      obtain ⟨hp, hv, hgb⟩ := h1
      obtain ⟨G', k1, k2, k3⟩ := stageB dst rvs rs (i + 1) st G h hr nd2 hsep2 hap2
      refine ⟨G', k1, ?_, k3⟩
      show EVRL (tv a) w B G' _ (.val d :: (backRs dst (i + 1) rvs).1) _
      simp only [EVRL, List.map_cons]
      exact ⟨v, _, rfl, by simp only [EVR]; exact ⟨hp, hv⟩, k2⟩
    | own d =>
      obtain ⟨ha, hc, hpl, hag⟩ := h1
      refine rest d (.at_ (nameOf dst i) []) hpl rfl (fun tv => at_new hc ?_ hag) (fun n hn => by simpa [EV.hits] using hn)
      rw [← hc]; exact Rel_length w B _ _ _ _ hpl.1
    | ptr d =>
      obtain ⟨b, o, ha, hv, hpl⟩ := h1
      subst hv
      exact rest d (.loc (nameOf dst i) []) hpl rfl (fun tv => loc_new ha) (fun n hn => by simpa [EV.hits] using hn)

theorem objFit_sz : ∀ {os : List (Nat × Path)} {obs : Obs} {ts : List Ty}, GoodL w B G (look st) os obs → objFit (look st) os ts = true → ∀ x ∈ obs, x.1.ty.size ≠ 0
  | [], obs, _, hg, _, x, hx => by have hg : obs = [] := hg; subst hg; cases hx
  | np :: os, _, [], _, hf, _, _ => by cases hf
  | np :: os, _, t :: ts, ⟨x0, obs', h1, h2, h3⟩, hf, x, hx => by
    subst h1
    simp only [objFit, Bool.and_eq_true] at hf
    rcases List.mem_cons.1 hx with rfl | hx
    · obtain ⟨dn, o, b, off, c, pre, post, F1, F3, hd, hget, _⟩ := h2
      have hf1 := hf.1
      simp only [listAt, hd, Option.bind_some, hget, Bool.and_eq_true, Bool.not_eq_true'] at hf1
      intro e
      have := hf1.2
      rw [e] at this; simp at this
    · exact objFit_sz h3 hf.2 x hx

theorem Lvs.one {os : Obs} {rvs : List RV} {ds : List Dyn} {v : Value} {w' : World} {B' : Nat → Prop} {gs : List PG} {rs : List (Value × PG)} (hL : Lvs w B os rvs ds v w' B' gs rs) {tv : Nat → Value} {G : Nat → PG} {L : Look} {l : List EV} (h : EVRL tv w' B' G L l (rs.map (·.1))) (hlen : l.length = rs.length) :
    EVR tv w' B' G L (tupOf l) v := by
  have hv := hL.val
  match l, rs, h, hlen, hv with
  | [e], [x], h, _, hv =>
    simp only [List.map_cons, List.map_nil, EVRL] at h
    obtain ⟨v', r, h1, h2, _⟩ := h
    obtain ⟨rfl, _⟩ := List.cons.inj h1
    rw [hv]; exact h2
  | [], [], h, _, hv =>
    simp only [tupOf, EVR]
    exact ⟨#[], hv, by simpa using h⟩
  | e1 :: e2 :: l, x1 :: x2 :: rs, h, _, hv =>
    simp only [tupOf, EVR]
    refine ⟨_, hv, ?_⟩
    simpa using h
  | [e], [], _, hl, _ => cases hl
  | [], _ :: _, _, hl, _ => cases hl
  | [_], _ :: _ :: _, _, hl, _ => cases hl
  | _ :: _ :: _, [], _, hl, _ => cases hl
  | _ :: _ :: _, [_], _, hl, _ => cases hl

theorem backRs_len (dst : Nat) : ∀ (rvs : List RV) (i : Nat), (backRs dst i rvs).1.length = rvs.length
  | [], _ => rfl
  | .val d :: l, i => by simp only [backRs, List.length_cons, backRs_len dst l (i + 1)]
  | .own d :: l, i => by simp only [backRs, List.length_cons, backRs_len dst l (i + 1)]
  | .ptr d :: l, i => by simp only [backRs, List.length_cons, backRs_len dst l (i + 1)]

theorem RsRel.len {w' : World} : ∀ {rvs : List RV} {rs : List (Value × PG)}, RsRel w' B rvs rs → rs.length = rvs.length
  | [], _, h => by have h : _ = [] := h; subst h; rfl
  | _ :: _, _, ⟨_, _, _, h, _, h2⟩ => by subst h; simp [h2.len]

/-- the frame behind a call -/
theorem callFin (h : Inv X st a w B G) {os : List (Nat × Path)} {obs : Obs} {res : List RK} {objs : List Ty} {x : ResT res × ObjT objs} {v : Value} {w' : World} {B' : Nat → Prop} {gs : List PG} {rs : List (Value × PG)} (dst : Nat) (hL : Lvs w B obs (resL res x.1) (objsL objs x.2) v w' B' gs rs)
    (hgood : GoodL w B G (look st) os obs) (hnodup : (os.map (·.1)).Nodup) (hfit : objFit (look st) os objs = true) :
    ∃ W G', backOs (look st) os (objsL objs x.2) = some W ∧ Inv X (applyU (W ++ (backRs dst 0 (resL res x.1)).2) st) a w' B' G' ∧
      EVR (tv a) w' B' G' (look (applyU (W ++ (backRs dst 0 (resL res x.1)).2) st)) (tupOf (backRs dst 0 (resL res x.1)).1) v := by
  have hlt : ∀ n d, lk n st.pl = some d → ∀ b ∈ (G n).blocks, b < w.heap.size := by
    intro m d' hm b hb
    obtain ⟨hR, hA⟩ := h.pl m d' hm
    unfold PG.blocks at hb
    cases hg : (G m).addr with
    | none => rw [hg] at hb; exact Rel_lt _ _ _ _ hR _ hb
    | some q =>
      rw [hg] at hb hA
      rcases List.mem_cons.1 hb with hb | hb
      · obtain ⟨_, c, hc⟩ := hA
        rw [hb]; exact hc.lt
      · exact Rel_lt _ _ _ _ hR _ hb
  have hno : ∀ np ∈ os, ∀ x ∈ obs, GoodO w B G (look st) np x → ∀ F1 F3, (G np.1).F = F1 ++ x.2.F ++ F3 → ∀ b ∈ F1 ++ F3, b < w.heap.size ∧ b ∉ obs.ob := by
    intro np hnp y hy hgo F1 F3 hF b hb
    have hbF : b ∈ (G np.1).F := by rw [hF]; rcases List.mem_append.1 hb with h | h <;> simp [h]
    have hgo0 := hgo
    obtain ⟨dn, o, b0, off, c, pre, post, F1', F3', hd, hget, hga, hblk, hc, hl, hF', hxa, hm, hrep⟩ := hgo
    have hd : lk np.1 st.pl = some dn := hd
    refine ⟨hlt _ dn hd b (PG.mem_blocks hbF), fun ho => ?_⟩
    obtain ⟨z, hz, hbz⟩ := Obs.mem_ob.1 ho
    obtain ⟨np', hnp', hgo'⟩ := hgood.mem z hz
    have hbz2 := hgo'.blocks b hbz
    have hd' : ∃ d, lk np'.1 st.pl = some d := by obtain ⟨dn', _, _, _, _, _, _, _, _, hd', _⟩ := hgo'; exact ⟨dn', hd'⟩
    obtain ⟨dn', hd'⟩ := hd'
    have hnd1 := (h.sep np.1 dn hd).1
    by_cases e : np'.1 = np.1
    · -- both objects lie in one place: they are the same one
      have hzy : z = y := by
        obtain ⟨kz, hkz⟩ := List.getElem?_of_mem hz
        obtain ⟨ky, hky⟩ := List.getElem?_of_mem hy
        have hgk : ∀ (os : List (Nat × Path)) (obs : Obs) (k : Nat) (x : Dyn × PG), GoodL w B G (look st) os obs → obs[k]? = some x → ∃ np, os[k]? = some np ∧ GoodO w B G (look st) np x := by
          intro os
          induction os with
          | nil => intro obs k x hg hx; have hg : obs = [] := hg; subst hg; simp at hx
          | cons q os ih =>
            intro obs k x hg hx
            obtain ⟨x0, obs', rfl, h1, h2⟩ := hg
            cases k with
            | zero => obtain rfl : x0 = x := by simpa using hx
                      exact ⟨q, rfl, h1⟩
            | succ k => obtain ⟨np, k1, k2⟩ := ih obs' k x h2 (by simpa using hx)
                        exact ⟨np, by simpa using k1, k2⟩
        obtain ⟨nz, hnz, hgz⟩ := hgk os obs kz z hgood hkz
        obtain ⟨ny, hny, hgy⟩ := hgk os obs ky y hgood hky
        have ez : nz.1 = np.1 := by
          have hb3 := hgz.blocks b hbz
          have hdz : ∃ d, lk nz.1 st.pl = some d := by obtain ⟨dn', _, _, _, _, _, _, _, _, hd', _⟩ := hgz; exact ⟨dn', hd'⟩
          obtain ⟨dz, hdz⟩ := hdz
          by_cases e2 : nz.1 = np.1
          · exact e2
          · exact absurd (PG.mem_blocks hbF) (h.apart nz.1 np.1 dz dn hdz hd e2 b hb3)
        have ey : ny.1 = np.1 := by
          have hy1 : y.2.addr = some (b0, off + o) := hxa
          have hb3 : b0 ∈ y.2.blocks := by unfold PG.blocks; rw [hy1]; simp
          have hb4 := hgy.blocks b0 hb3
          have hb5 := hgo0.blocks b0 hb3
          have hdy : ∃ d, lk ny.1 st.pl = some d := by obtain ⟨dn', _, _, _, _, _, _, _, _, hd', _⟩ := hgy; exact ⟨dn', hd'⟩
          obtain ⟨dy, hdy⟩ := hdy
          by_cases e2 : ny.1 = np.1
          · exact e2
          · exact absurd hb5 (h.apart ny.1 np.1 dy dn hdy hd e2 b0 hb4)
        have h1' : (os.map (·.1))[kz]? = some np.1 := by rw [List.getElem?_map, hnz, Option.map_some, ez]
        have h2' : (os.map (·.1))[ky]? = some np.1 := by rw [List.getElem?_map, hny, Option.map_some, ey]
        have hkk := (List.getElem?_inj (List.getElem?_eq_some_iff.1 h1').1 hnodup).1 (h1'.trans h2'.symm)
        rw [hkk, hky] at hkz
        exact (Option.some.inj hkz).symm
      rw [hzy] at hbz
      unfold PG.blocks at hnd1 hbz
      rw [hga, hF] at hnd1
      rw [hxa] at hbz
      obtain ⟨hnb, hnF⟩ := List.nodup_cons.1 hnd1
      obtain ⟨m1, m2, m3⟩ := List.nodup_append.1 hnF
      obtain ⟨m4, m5, m6⟩ := List.nodup_append.1 m1
      rcases List.mem_cons.1 hbz with hbz | hbz
      · rw [hF] at hbF; rw [hbz] at hbF; exact hnb hbF
      · rcases List.mem_append.1 hb with hb | hb
        · exact m6 b hb b hbz rfl
        · exact m3 b (List.mem_append.2 (.inr hbz)) b hb rfl
    · exact h.apart np'.1 np.1 dn' dn hd' hd e b hbz2 (PG.mem_blocks hbF)
  obtain ⟨W, gas, hW, hBk⟩ := back_ok h (fun b hb => (hL.keep b hb).1) (fun b hb => (hL.keep b hb).2) hL.old os obs objs x.2 gs hgood hL.obs hfit hL.out hno
  obtain ⟨GA, hIA, hblA⟩ := stageA h hL hgood hBk hnodup
  have hnd := List.nodup_append.1 hL.nd
  have hresb : ∀ b ∈ rs.flatMap (fun x => x.2.blocks), ¬ B' b ∧ (b < w.heap.size → b ∈ obs.ob) := fun b hb => hL.sep b (List.mem_append.2 (.inr hb))
  obtain ⟨G', hIB, hEVL, _⟩ := stageB dst (resL res x.1) rs 0 (applyU W st) GA hIA hL.res hnd.2.1
    (fun b hb => ⟨(hresb b hb).1, fun hlt0 => by
      obtain ⟨z, hz, hbz⟩ := Obs.mem_ob.1 ((hresb b hb).2 (Nat.lt_of_lt_of_le hlt0 h.size))
      obtain ⟨np, _, hgo⟩ := hgood.mem z hz
      have hbg := hgo.blocks b hbz
      obtain ⟨dn, _, _, _, _, _, _, _, _, hd, _⟩ := hgo
      exact ((h.sep np.1 dn hd).2 b hbg).2 hlt0⟩)
    (fun b hb n d hd hbn => by
      rcases hblA n d hd b hbn with hg | ⟨h1, h2⟩
      · exact hnd.2.2 b hg b hb rfl
      · exact h2 ((hresb b hb).2 h1))
  refine ⟨W, G', hW, by rw [applyU_append]; exact hIB, ?_⟩
  refine hL.one ?_ (by rw [backRs_len, hL.res.len])
  rw [applyU_append]; exact hEVL

/-- flat data stays what it is, whatever is shut -/
theorem RelL_flat {α : Type} {R R' : α → List Value → List Nat → Prop} (h : ∀ x cs F, R x cs F → R' x cs F) {xs : List α} {cs : List Value} {F : List Nat} (hr : RelL R xs cs F) : RelL R' xs cs F := RelL_mono h xs cs F hr

theorem Rel_flat {w : World} {B B' : Nat → Prop} : ∀ (t : Ty) (x : T t) cs F, t.flat = true → Rel w B t x cs F → Rel w B' t x cs F
  | .int _, _, _, _, _, h => h
  | .bool, _, _, _, _, h => h
  | .str, _, _, _, _, h => h
  | .unit, _, _, _, _, h => h
  | .pair a b, x, _, _, hf, ⟨c1, c2, F1, F2, hc, hF, h1, h2⟩ => by
    simp only [Ty.flat, Bool.and_eq_true] at hf
    exact ⟨c1, c2, F1, F2, hc, hF, Rel_flat a _ _ _ hf.1 h1, Rel_flat b _ _ _ hf.2 h2⟩
  | .agg a, x, cs, F, hf, h => Rel_flat a x cs F hf h
  | .arr n e, xs, cs, F, hf, h => ⟨h.1, RelL_flat (fun x cs F hx => Rel_flat e x cs F hf hx) h.2⟩
  | .own e, xs, cs, F, hf, ⟨v, hv, h⟩ => by
    refine ⟨v, hv, ?_⟩
    rcases h with h | ⟨b, cap, c, F', h1, h2, h3, h4, h5, h6, h7⟩
    · exact .inl h
    · exact .inr ⟨b, cap, c, F', h1, h2, h3, h4, h5, RelL_flat (fun x cs F hx => Rel_flat e x cs F hf hx) h6, h7⟩
  | .junk, _, _, _, _, h => h
  | .box t, o, cs, F, hf, h => by
    cases o with
    | none => exact h
    | some x =>
      obtain ⟨b, c, F', h1, h2, h3, h4⟩ := h
      exact ⟨b, c, F', h1, h2, Rel_flat t x _ _ hf h3, h4⟩
  | .nils _, _, _, _, _, h => h
  | .nilp, _, _, _, _, h => h
  | .nili, _, _, _, _, h => h
  | .alt u t r, s, cs, F, hf, h => by
    simp only [Ty.flat, Bool.and_eq_true] at hf
    obtain ⟨h0, h⟩ := h
    refine ⟨h0, ?_⟩
    cases s with
    | inl x =>
      obtain ⟨v, h1, h2, h3⟩ := h
      exact ⟨v, h1, Rel_flat t x _ _ hf.1 h2, h3⟩
    | inr y => exact ⟨Rel_flat r y _ _ hf.2 h.1, h.2⟩
  | .slice _, _, _, _, hf, _ => by cases hf
  | .app _, _, _, _, hf, _ => by cases hf
  | .ptr _, _, _, _, hf, _ => by cases hf

theorem PlR_flat {w : World} {B B' : Nat → Prop} {g : PG} {d : Dyn} (hf : d.ty.flat = true) (h : PlR w B g d) : PlR w B' g d := ⟨Rel_flat _ _ _ _ hf h.1, h.2⟩

theorem RsRel.flat {w : World} {B B' : Nat → Prop} : ∀ (l : List RK) (x : ResT l) (rs : List (Value × PG)), l.all (fun r => r.ty.flat) = true → RsRel w B (resL l x) rs → RsRel w B' (resL l x) rs
  | [], _, _, _, h => h
  | r :: l, x, _, hf, ⟨v, g, t, h1, h2, h3⟩ => by
    simp only [List.all_cons, Bool.and_eq_true] at hf
    refine ⟨v, g, t, h1, ?_, RsRel.flat l x.2 t hf.2 h3⟩
    cases r with
    | val τ => exact ⟨h2.1, ⟨Rel_flat _ _ _ _ hf.1 h2.2.1.1, h2.2.1.2⟩, h2.2.2⟩
    | own τ => exact ⟨h2.1, h2.2.1, PlR_flat hf.1 h2.2.2.1, h2.2.2.2⟩
    | ptr τ => obtain ⟨b, o, k1, k2, k3⟩ := h2; exact ⟨b, o, k1, k2, PlR_flat hf.1 k3⟩

theorem OsRel.flat {w : World} {B B' : Nat → Prop} : ∀ (os : Obs) (l : List Ty) (x : ObjT l) (gs : List PG), l.all Ty.flat = true → OsRel w B os (objsL l x) gs → OsRel w B' os (objsL l x) gs
  | [], _, _, _, _, h => h
  | o :: os, [], _, _, _, ⟨d, g, ds', gs', h1, _⟩ => by cases h1
  | o :: os, t :: l, x, _, hf, ⟨d, g, ds', gs', h1, h2, h3, h4, h5, h6⟩ => by
    simp only [List.all_cons, Bool.and_eq_true] at hf
    simp only [objsL, List.cons.injEq] at h1
    obtain ⟨rfl, rfl⟩ := h1
    exact ⟨_, g, _, gs', rfl, h2, PlR_flat hf.1 h3, h4, h5, OsRel.flat os l x.2 gs' hf.2 h6⟩

/-- objects as they lie in the caller's places, other arguments as they are shut for the call -/
theorem AR.good2 {B1 : Nat → Prop} {G1 : Nat → PG} {L1 : Look} (h : Inv X st a w B G) : ∀ (avs : List AV) (os : List (Nat × Path)) (vs : List Value), (∀ x ∈ os, L1 x.1 = look st x.1 ∧ G1 x.1 = G x.1) → AR w B1 G1 L1 avs os vs → ∃ obs, GoodL w B G (look st) os obs ∧ ARel w B1 avs obs vs
  | [], os, vs, _, ⟨h1, h2⟩ => ⟨[], by subst h1; rfl, rfl, h2⟩
  | .val d :: l, os, _, ho, ⟨v, r, h1, h2, h3, h4⟩ => by
    obtain ⟨obs, k1, k2⟩ := AR.good2 h l os r ho h4
    exact ⟨obs, k1, v, r, h1, h2, h3, k2⟩
  | .ref d :: l, os, _, ho, ⟨v, r, h1, h2, h4⟩ => by
    obtain ⟨obs, k1, k2⟩ := AR.good2 h l os r ho h4
    exact ⟨obs, k1, v, r, h1, h2, k2⟩
  | .fn f caps :: l, os, _, ho, ⟨v, r, h1, h2, h3, h4⟩ => by
    obtain ⟨obs, k1, k2⟩ := AR.good2 h l os r ho h4
    exact ⟨obs, k1, v, r, h1, h2, h3, k2⟩
  | .obj d :: l, _, _, ho, ⟨v, r, n, p, os', h1, h2, ⟨dn, o, b, off, hd, hget, hof, hg, hv⟩, h4⟩ => by
    subst h2
    obtain ⟨obs, k1, k2⟩ := AR.good2 h l os' r (fun x hx => ho x (by simp [hx])) h4
    obtain ⟨e1, e2⟩ := ho (n, p) (by simp)
    have hd : lk n st.pl = some dn := e1.symm.trans hd
    have hg : (G n).addr = some (b, off) := by rw [← e2]; exact hg
    obtain ⟨hR, hA⟩ := h.pl n dn hd
    rw [hg] at hA
    obtain ⟨hrows, c, hblk⟩ := hA
    obtain ⟨o', pre, mid, post, F1, F2, F3, ho', hc, hl, hF, hm, hrep⟩ := getP_rel p dn.ty dn.val _ d.val _ _ hget rfl hR
    rw [hof] at ho'
    simp only [Option.some.injEq, Prod.mk.injEq, and_true] at ho'
    subst ho'
    exact ⟨(d, ⟨some (b, off + o), mid, F2⟩) :: obs, ⟨_, _, rfl, ⟨dn, o, b, off, c, pre, post, F1, F3, hd, hget, hg, hblk, hc, hl, hF, rfl, hm, hrep⟩, k1⟩, v, r, _, obs, h1, rfl, ⟨b, off + o, rfl, hv⟩, k2⟩

/-- a call -/
theorem callOp_ok (h : Inv X st a w B G) {Γ : Nat → Option CSem} (hΓ : ∀ f sem, Γ f = some sem → Contract X.P f sem) {o : Oper} {f dst : Nat} {fix : Nat → EV → Option EV} (hfix : ∀ i x y, fix i x = some y → (∃ t, x.fix X.P t = some y) ∨ y = x) {es : List EV} {vs : List Value} (hes : EVRL (tv a) w B G (look st) es vs)
    {r : ORes} (he : callOp Γ (look st) dst f fix es = some r) {x : r.α} (hx : r.run = some x) (hrun : (∃ fn, X.P.funcs[f]? = some fn ∧ (fn.name == "runtime.NumGoroutine") = false ∧ fn.body.isNone = false) → (execOp a.eval o).run X.P w = .ok (.enter f vs.toArray) w) :
    Does X st a w o (r.out x).ev (r.out x).upd := by
  unfold callOp at he
  obtain ⟨sem, hsem, he⟩ := bind_some he
  obtain ⟨⟨avs, os, U⟩, harg, he⟩ := bind_some he
  obtain ⟨s, hs, he⟩ := bind_some he
  split at he
  · rename_i hk
    simp only [Bool.and_eq_true, Bool.not_eq_true'] at hk
    obtain ⟨⟨⟨hk1, hk2⟩, hk3⟩, hk4⟩ := hk
    obtain rfl := Option.some.inj he
    obtain ⟨hfn, hcon⟩ := hΓ f sem hsem
    have hosU : ∀ q ∈ os, q.1 ∉ updNames U := by
      intro q hq hm
      have := List.any_eq_false.1 hk2 q hq
      refine this (List.any_eq_true.2 ⟨q.1, hm, by simp⟩)
    obtain ⟨B1, G1, hI1, hAR, hB1, hkeep, hEV⟩ := argAll_ok hfix es 0 vs st B G avs os U h hes harg hosU
    have hnodup := nodupN_ok _ hk1
    have hlkos' : ∀ q ∈ os, look (applyU U st) q.1 = look st q.1 := fun q hq => applyU_pl_other U st q.1 (hosU q hq)
    have hfit : objFit (look (applyU U st)) os s.objs = true := by
      have key : ∀ (os : List (Nat × Path)) (ts : List Ty), (∀ q ∈ os, look (applyU U st) q.1 = look st q.1) → objFit (look (applyU U st)) os ts = objFit (look st) os ts := by
        intro os
        induction os with
        | nil => intro ts _; cases ts <;> rfl
        | cons q os ih =>
          intro ts hq
          cases ts with
          | nil => rfl
          | cons t ts =>
            simp only [objFit, listAt]
            rw [hq q (by simp), ih ts (fun q hq' => hq q (by simp [hq']))]
      rw [key os s.objs hlkos']; exact hk3
    have hosd : ∀ q ∈ os, ∃ d, lk q.1 st.pl = some d := by
      have key : ∀ (os : List (Nat × Path)) (ts : List Ty), objFit (look st) os ts = true → ∀ q ∈ os, ∃ d, lk q.1 st.pl = some d := by
        intro os
        induction os with
        | nil => intro ts _ q hq; cases hq
        | cons p os ih =>
          intro ts hf q hq
          cases ts with
          | nil => cases hf
          | cons t ts =>
            simp only [objFit, Bool.and_eq_true] at hf
            rcases List.mem_cons.1 hq with rfl | hq
            · cases hl : look st q.1 with
              | none => have := hf.1; simp [listAt, hl] at this
              | some d => exact ⟨d, hl⟩
            · exact ih ts hf.2 q hq
      exact key os s.objs hk3
    have hG1 : ∀ q ∈ os, look (applyU U st) q.1 = look st q.1 ∧ G1 q.1 = G q.1 := fun q hq => by
      obtain ⟨d, hd⟩ := hosd q hq
      obtain ⟨k1, k2⟩ := hkeep q.1 d (hosU q hq) hd
      exact ⟨k1.trans hd.symm, k2⟩
    cases hfl : (s.res.all (fun r => r.ty.flat) && s.objs.all Ty.flat) with
    | true =>
      simp only [Bool.and_eq_true] at hfl
      obtain ⟨obs, hgood, hA⟩ := AR.good2 h avs os vs hG1 hAR
      have hent : Ent w B1 obs := by
        have h0 := GoodL.ent h hgood hnodup (objFit_sz hgood hk3)
        refine ⟨hI1.bsz, fun x hx => ⟨Rel_same (fun _ _ => rfl) hB1 _ _ _ _ (h0.pl x hx).1 (fun _ _ => rfl), (h0.pl x hx).2⟩, h0.addr, fun x hx b hb => ?_, h0.nd⟩
        obtain ⟨np, hnp, hgo⟩ := hgood.mem x hx
        have hb2 := hgo.blocks b hb
        obtain ⟨d, hd⟩ := hosd np hnp
        obtain ⟨e1, e2⟩ := hG1 np hnp
        rw [← e2] at hb2
        exact ((hI1.sep np.1 d (e1.trans hd)).2 b hb2).1
      have hcalls := hcon avs s hs x hx w B1 obs vs hent hA
      intro next Q hnext
      unfold Oper.wp
      rw [hrun hfn]
      show Calls X.P f vs.toArray w _
      refine Calls.mono hcalls fun e w' he => ?_
      cases e with
      | panicked c => exact he.elim
      | outgrown => exact he.elim
      | returned v =>
        obtain ⟨B', gs, rs, hL⟩ := he
        have hL2 : Lvs w B obs (resL s.res x.1) (objsL s.objs x.2) v w' B gs rs := ⟨hL.val, OsRel.flat obs s.objs x.2 gs hfl.2 hL.obs, RsRel.flat s.res x.1 rs hfl.1 hL.res, hL.nd,
          fun b hb => ⟨fun hB => (hL.sep b hb).1 (hL.keep b (hB1 b hB)).2, (hL.sep b hb).2⟩, hL.size, hL.rest, fun b hb => ⟨(hL.keep b (hB1 b hb)).1, hb⟩, fun b hb => Nat.lt_of_lt_of_le (h.bsz b hb) hL.size, fun _ _ hb => .inl hb, hL.old, hL.out⟩
        obtain ⟨W, G', hW, hfin, hev⟩ := callFin h dst hL2 hgood hnodup hk3
        have hout : callRes (look st) dst os [] (resL s.res x.1) (objsL s.objs x.2) = ⟨tupOf (backRs dst 0 (resL s.res x.1)).1, [] ++ (W ++ (backRs dst 0 (resL s.res x.1)).2)⟩ := by
          unfold callRes
          rw [hW]
        refine hnext v w' B G' ?_ ?_
        · show Inv X (applyU (callRes (look st) dst os [] (resL s.res x.1) (objsL s.objs x.2)).upd st) a w' B G'
          rw [hout]; exact hfin
        · show EVR (tv a) w' B G' (look (applyU (callRes (look st) dst os [] (resL s.res x.1) (objsL s.objs x.2)).upd st)) (callRes (look st) dst os [] (resL s.res x.1) (objsL s.objs x.2)).ev v
          rw [hout]; exact hev
    | false =>
      obtain ⟨obs, hgood, hA⟩ := AR.good hI1 avs os vs hAR
      have hback : ∀ ds, backOs (look (applyU U st)) os ds = backOs (look st) os ds := by
        have key : ∀ (os : List (Nat × Path)) (ds : List Dyn), (∀ q ∈ os, look (applyU U st) q.1 = look st q.1) → backOs (look (applyU U st)) os ds = backOs (look st) os ds := by
          intro os
          induction os with
          | nil => intro ds _; cases ds <;> rfl
          | cons q os ih =>
            intro ds hq
            cases ds with
            | nil => rfl
            | cons t ds =>
              simp only [backOs]
              rw [hq q (by simp), ih ds (fun q hq' => hq q (by simp [hq']))]
        exact fun ds => key os ds hlkos'
      have hent := GoodL.ent hI1 hgood hnodup (objFit_sz hgood hfit)
      have hcalls := hcon avs s hs x hx w B1 obs vs hent hA
      intro next Q hnext
      unfold Oper.wp
      rw [hrun hfn]
      show Calls X.P f vs.toArray w _
      refine Calls.mono hcalls fun e w' he => ?_
      cases e with
      | panicked c => exact he.elim
      | outgrown => exact he.elim
      | returned v =>
        obtain ⟨B', gs, rs, hL⟩ := he
        obtain ⟨W, G', hW, hfin, hev⟩ := callFin hI1 dst hL hgood hnodup hfit
        rw [← applyU_append] at hfin hev
        have hout : callRes (look st) dst os U (resL s.res x.1) (objsL s.objs x.2) = ⟨tupOf (backRs dst 0 (resL s.res x.1)).1, U ++ (W ++ (backRs dst 0 (resL s.res x.1)).2)⟩ := by
          unfold callRes
          rw [← hback, hW]
        refine hnext v w' B' G' ?_ ?_
        · show Inv X (applyU (callRes (look st) dst os U (resL s.res x.1) (objsL s.objs x.2)).upd st) a w' B' G'
          rw [hout]; exact hfin
        · show EVR (tv a) w' B' G' (look (applyU (callRes (look st) dst os U (resL s.res x.1) (objsL s.objs x.2)).upd st)) (callRes (look st) dst os U (resL s.res x.1) (objsL s.objs x.2)).ev v
          rw [hout]; exact hev
  · cases he

end
end
end Go.Pv
