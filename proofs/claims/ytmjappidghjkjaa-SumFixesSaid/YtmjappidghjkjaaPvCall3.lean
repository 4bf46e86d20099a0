/- A call by its contract: the frame behind it. -/
import Derived.Test.YtmjappidghjkjaaPvCall2
namespace Go.Pv
noncomputable section
universe u v

theorem flatMap_disj {α : Type} {f : α → List Nat} : ∀ {l : List α}, (l.flatMap f).Nodup → ∀ {i j : Nat} {x y : α}, l[i]? = some x → l[j]? = some y → i ≠ j → ∀ b ∈ f x, b ∉ f y
  | [], _, i, _, _, _, h, _, _ => by simp at h
  | z :: l, hn, i, j, x, y, hx, hy, hne => by
    rw [List.flatMap_cons] at hn
    obtain ⟨h1, h2, h3⟩ := List.nodup_append.1 hn
    intro b hb hb'
    cases i with
    | zero =>
      cases j with
      | zero => exact hne rfl
      | succ j =>
        obtain rfl : z = x := by simpa using hx
        exact h3 b hb b (List.mem_flatMap.2 ⟨y, List.mem_of_getElem? (by simpa using hy), hb'⟩) rfl
    | succ i =>
      cases j with
      | zero =>
        obtain rfl : z = y := by simpa using hy
        exact h3 b hb' b (List.mem_flatMap.2 ⟨x, List.mem_of_getElem? (by simpa using hx), hb⟩) rfl
      | succ j => exact flatMap_disj h2 (by simpa using hx) (by simpa using hy) (by omega) b hb hb'

theorem flatMap_nodup_of {α : Type} {f : α → List Nat} {l : List α} (h : (l.flatMap f).Nodup) {i : Nat} {x : α} (hx : l[i]? = some x) : (f x).Nodup := by
  induction l generalizing i with
  | nil => simp at hx
  | cons z l ih =>
    rw [List.flatMap_cons] at h
    obtain ⟨h1, h2, _⟩ := List.nodup_append.1 h
    cases i with
    | zero => obtain rfl : z = x := by simpa using hx
              exact h1
    | succ i => exact ih h2 (by simpa using hx)

section
variable {X : Cx} {st : St} {a : Act} {w : World} {B : Nat → Prop} {G : Nat → PG} {E : Operand → Option EV}

theorem Back.names {w' : World} {B' : Nat → Prop} {L : Look} : ∀ {os : List (Nat × Path)} {obs : Obs} {gs : List PG} {W : Upds} {gas : List (Nat × PG)}, Back w w' B' G L os obs gs W gas → gas.map (·.1) = os.map (·.1) ∧ updNames W = os.map (·.1)
  | [], _, _, _, _, ⟨_, _, h1, h2⟩ => by subst h1; subst h2; exact ⟨rfl, rfl⟩
  | np :: os, _, _, _, _, ⟨x, obs', g, gs', d, W', ga, gas', dn, o, b, off, pre, post, F1, F3, mid', F', h1, h2, h3, h4, hrest⟩ => by
    subst h3; subst h4
    obtain ⟨k1, k2⟩ := Back.names hrest.2.2.2.2.2.2.2.2.2.2.2.2.2
    exact ⟨by simp [k1], by simp only [updNames] at k2 ⊢; simp [k2]⟩

/-- one place behind the call -/
theorem Back.get {w' : World} {B' : Nat → Prop} {L : Look} : ∀ {os : List (Nat × Path)} {obs : Obs} {gs : List PG} {W : Upds} {gas : List (Nat × PG)} {n : Nat} {ga : PG}, Back w w' B' G L os obs gs W gas → lk n gas = some ga → (os.map (·.1)).Nodup →
    ∃ (k : Nat) (np : Nat × Path) (x : Dyn × PG) (g : PG) (d dn : Dyn) (o b off : Nat) (pre post : List Value) (F1 F3 : List Nat) (mid' : List Value), os[k]? = some np ∧ np.1 = n ∧ obs[k]? = some x ∧ gs[k]? = some g ∧ (n, .set d) ∈ W ∧ (∀ s : St, lk n (applyU W s).pl = some d) ∧
      L n = some dn ∧ sk d.ty = sk dn.ty ∧ (G n).addr = some (b, off) ∧ ga = ⟨some (b, off), pre ++ mid' ++ post, F1 ++ g.F ++ F3⟩ ∧ x.2.addr = some (b, off + o) ∧ g.addr = some (b, off + o) ∧ pre.length = o ∧ mid'.length = x.1.ty.size ∧
      (G n).cells.length = dn.ty.size ∧ o + x.1.ty.size ≤ dn.ty.size ∧ (G n).F = F1 ++ x.2.F ++ F3 ∧ PlR w' B' ga d
  | [], _, _, _, _, _, _, ⟨_, _, _, h2⟩, h, _ => by subst h2; cases h
  | np :: os, _, _, _, _, n, ga0, ⟨x, obs', g, gs', d, W', ga, gas', dn, o, b, off, pre, post, F1, F3, mid', F', h1, h2, h3, h4, h5, h6, h7, h8, h9, h10, h11, h12, h13, h14, h15, h16, h17, hrest⟩, h, hn => by
    subst h1; subst h2; subst h3; subst h4; subst h16
    simp only [List.map_cons, List.nodup_cons] at hn
    simp only [lk] at h
    by_cases e : n = np.1
    · subst e
      simp only [Nat.beq_refl, cond_true, Option.some.injEq] at h
      subst h
      refine ⟨0, np, x, g, d, dn, o, b, off, pre, post, F1, F3, mid', rfl, rfl, rfl, rfl, by simp, fun s => ?_, h5, h6, h7, h8, h9, h10, h11, h12, h13, h14, h15, h17⟩
      show lk np.1 (applyU W' (apply1 (np.1, .set d) s)).pl = _
      rw [applyU_pl_other W' _ _ (by rw [hrest.names.2]; exact hn.1), apply1_pl, if_pos rfl]
    · rw [beq_ne e] at h
      obtain ⟨k, np', x', g', d', dn', o', b', off', pre', post', F1', F3', mid'', k1, k2, k3, k4, k5, k6, krest⟩ := hrest.get h hn.2
      exact ⟨k + 1, np', x', g', d', dn', o', b', off', pre', post', F1', F3', mid'', by simpa using k1, k2, by simpa using k3, by simpa using k4, by simp [k5], fun s => k6 _, krest⟩

theorem lk_none_names {α : Type} {n : Nat} : ∀ {l : List (Nat × α)}, lk n l = none → n ∉ l.map (·.1)
  | [], _ => by simp
  | (m, x) :: l, h => by
    simp only [lk] at h
    by_cases e : n = m
    · subst e; simp at h
    · rw [beq_ne e] at h
      simp only [List.map_cons, List.mem_cons, not_or]
      exact ⟨e, lk_none_names h⟩

/-- the places behind the call -/
theorem stageA (h : Inv X st a w B G) {os : List (Nat × Path)} {obs : Obs} {rvs : List RV} {ds : List Dyn} {v : Value} {w' : World} {B' : Nat → Prop} {gs : List PG} {rs : List (Value × PG)} (hL : Lvs w B obs rvs ds v w' B' gs rs) (hg : GoodL w B G (look st) os obs)
    {W : Upds} {gas : List (Nat × PG)} (hb : Back w w' B' G (look st) os obs gs W gas) (hn : (os.map (·.1)).Nodup) :
    ∃ GA, Inv X (applyU W st) a w' B' GA ∧ ∀ n d, lk n (applyU W st).pl = some d → ∀ b ∈ (GA n).blocks, b ∈ gs.flatMap PG.blocks ∨ (b < w.heap.size ∧ b ∉ obs.ob) := by
  have hnd := List.nodup_append.1 hL.nd
  have hobB : ∀ b ∈ obs.ob, ∃ np ∈ os, ∃ d, lk np.1 st.pl = some d ∧ b ∈ (G np.1).blocks := by
    intro b hb
    obtain ⟨x, hx, hbx⟩ := Obs.mem_ob.1 hb
    obtain ⟨np, hnp, hgo⟩ := hg.mem x hx
    have := hgo.blocks b hbx
    obtain ⟨dn, _, _, _, _, _, _, _, _, hd, _⟩ := hgo
    exact ⟨np, hnp, dn, hd, this⟩
  have hlt : ∀ n d, lk n st.pl = some d → ∀ b ∈ (G n).blocks, b < w.heap.size := by
    intro m d' hm b hb
    obtain ⟨hR, hA⟩ := h.pl m d' hm
    unfold PG.blocks at hb
    cases hg : (G m).addr with
    | none => rw [hg] at hb; exact Rel_lt _ _ _ _ hR _ hb
    | some q =>
      rw [hg] at hb hA
      rcases List.mem_cons.1 hb with hb | hb
      · obtain ⟨_, c, hc⟩ := hA
        rw [hb]; exact hc.lt
      · exact Rel_lt _ _ _ _ hR _ hb
  let GA : Nat → PG := fun n => (lk n gas).getD (G n)
  -- blocks of a place behind the call
  have hent : ∀ n ga, lk n gas = some ga → ∃ (k : Nat) (g : PG) (x : Dyn × PG) (np : Nat × Path), os[k]? = some np ∧ np.1 = n ∧ obs[k]? = some x ∧ gs[k]? = some g ∧ (∀ b ∈ ga.blocks, b ∈ g.blocks ∨ (b ∈ (G n).F ∧ b ∉ obs.ob)) ∧ ga.blocks.Nodup ∧ ga.addr = (G n).addr := by
    intro n ga hlk
    obtain ⟨k, np, x, g, d, dn, o, b, off, pre, post, F1, F3, mid', h1, h2, h3, h4, h5, h6, h7, h8, h9, h10, h11, h12, h13, h14, h15, h16, h17, h18⟩ := hb.get hlk hn
    have hdn : lk n st.pl = some dn := h7
    have hndn := (h.sep n dn hdn).1
    have hF13 : ∀ y ∈ F1 ++ F3, y ∈ (G n).F ∧ y ∉ obs.ob := by
      intro y hy
      have hyF : y ∈ (G n).F := by rw [h17]; rcases List.mem_append.1 hy with h | h <;> simp [h]
      refine ⟨hyF, fun hyo => ?_⟩
      obtain ⟨x', hx', hyx⟩ := Obs.mem_ob.1 hyo
      obtain ⟨np', hnp', hgo'⟩ := hg.mem x' hx'
      obtain ⟨k', hk'⟩ := List.getElem?_of_mem hx'
      have hy2 := hgo'.blocks y hyx
      obtain ⟨dn', _, _, _, _, _, _, _, _, hd', _⟩ := hgo'
      by_cases e : np'.1 = n
      · -- the same place: then the same object
        have hkk : k' = k := by
          have hgk : ∀ (os : List (Nat × Path)) (obs : Obs) (k : Nat) (x : Dyn × PG), GoodL w B G (look st) os obs → obs[k]? = some x → ∃ np, os[k]? = some np ∧ GoodO w B G (look st) np x := by
            intro os
            induction os with
            | nil => intro obs k x hg hx; have hg : obs = [] := hg; subst hg; simp at hx
            | cons q os ih =>
              intro obs k x hg hx
              obtain ⟨x0, obs', rfl, h1, h2⟩ := hg
              cases k with
              | zero => obtain rfl : x0 = x := by simpa using hx
                        exact ⟨q, rfl, h1⟩
              | succ k => obtain ⟨np, k1, k2⟩ := ih obs' k x h2 (by simpa using hx)
                          exact ⟨np, by simpa using k1, k2⟩
          obtain ⟨np2, hnp2, hgo2⟩ := hgk os obs k' x' hg hk'
          have hy3 := hgo2.blocks y hyx
          have e2 : np2.1 = n := by
            obtain ⟨dn2, _, _, _, _, _, _, _, _, hd2, _⟩ := hgo2
            by_cases e2 : np2.1 = n
            · exact e2
            · exact absurd (PG.mem_blocks hyF) (h.apart np2.1 n dn2 dn hd2 hdn e2 y hy3)
          have h1' : (os.map (·.1))[k]? = some n := by rw [List.getElem?_map, h1, Option.map_some, h2]
          have h2' : (os.map (·.1))[k']? = some n := by rw [List.getElem?_map, hnp2, Option.map_some, e2]
          exact (List.getElem?_inj (List.getElem?_eq_some_iff.1 h2').1 hn).1 (h2'.trans h1'.symm)
        subst hkk
        rw [h3] at hk'
        obtain rfl := Option.some.inj hk'
        -- y is in F1 or F3 and among the blocks of the object
        unfold PG.blocks at hndn
        rw [h9, h17] at hndn
        obtain ⟨hnb, hnF⟩ := List.nodup_cons.1 hndn
        obtain ⟨m1, m2, m3⟩ := List.nodup_append.1 hnF
        obtain ⟨m4, m5, m6⟩ := List.nodup_append.1 m1
        unfold PG.blocks at hyx
        rw [h11] at hyx
        rcases List.mem_cons.1 hyx with hyx | hyx
        · rw [h17] at hyF; rw [hyx] at hyF; exact hnb hyF
        · rcases List.mem_append.1 hy with hy | hy
          · exact m6 y hy y hyx rfl
          · exact m3 y (List.mem_append.2 (.inr hyx)) y hy rfl
      · exact h.apart np'.1 n dn' dn hd' hdn e y hy2 (PG.mem_blocks hyF)
    have hgb : g.blocks = b :: g.F := by unfold PG.blocks; rw [h12]
    have hgab : ga.blocks = b :: (F1 ++ g.F ++ F3) := by rw [h10]; rfl
    have hgnd := flatMap_nodup_of hnd.1 h4
    rw [hgb] at hgnd
    have hgob : ∀ y ∈ g.blocks, y < w.heap.size → y ∈ obs.ob := fun y hy => (hL.sep y (List.mem_append.2 (.inl (List.mem_flatMap.2 ⟨g, List.mem_of_getElem? h4, hy⟩)))).2
    have hdis : ∀ y ∈ F1 ++ F3, y ∉ g.blocks := fun y hy hyg => (hF13 y hy).2 (hgob y hyg (hlt n dn hdn y (PG.mem_blocks (hF13 y hy).1)))
    refine ⟨k, g, x, np, h1, h2, h3, h4, fun y hy => ?_, ?_, by rw [h10, h9]⟩
    · rw [hgab] at hy
      rcases List.mem_cons.1 hy with rfl | hy
      · exact .inl (by rw [hgb]; simp)
      · rcases List.mem_append.1 hy with hy | hy
        · rcases List.mem_append.1 hy with hy | hy
          · exact .inr (hF13 y (by simp [hy]))
          · exact .inl (by rw [hgb]; simp [hy])
        · exact .inr (hF13 y (by simp [hy]))
    · rw [hgab]
      obtain ⟨g1, g2⟩ := List.nodup_cons.1 hgnd
      unfold PG.blocks at hndn
      rw [h9, h17] at hndn
      obtain ⟨_, hnF⟩ := List.nodup_cons.1 hndn
      obtain ⟨m1, m2, m3⟩ := List.nodup_append.1 hnF
      obtain ⟨m4, m5, m6⟩ := List.nodup_append.1 m1
      refine List.nodup_cons.2 ⟨fun hy => ?_, List.nodup_append.2 ⟨List.nodup_append.2 ⟨m4, g2, fun x hx y hy e => ?_⟩, m2, fun x hx y hy e => ?_⟩⟩
      · rcases List.mem_append.1 hy with hy | hy
        · rcases List.mem_append.1 hy with hy | hy
          · exact hdis b (by simp [hy]) (by rw [hgb]; simp)
          · exact g1 hy
        · exact hdis b (by simp [hy]) (by rw [hgb]; simp)
      · exact hdis x (by simp [hx]) (by rw [hgb, e]; simp [hy])
      · rcases List.mem_append.1 hx with hx | hx
        · exact m3 x (List.mem_append.2 (.inl hx)) y hy e
        · exact hdis y (by simp [hy]) (by rw [hgb, ← e]; simp [hx])
  have hnames : updNames W = os.map (·.1) := hb.names.2
  have hgn : ∀ n, n ∉ updNames W → GA n = G n := by
    intro n hn'
    have : lk n gas = none := by
      cases hlk : lk n gas with
      | none => rfl
      | some ga =>
        obtain ⟨k, g, x, np, h1, h2, _⟩ := hent n ga hlk
        exact absurd (by rw [hnames]; exact List.mem_map.2 ⟨np, List.mem_of_getElem? h1, h2⟩) hn'
    show (lk n gas).getD (G n) = _
    rw [this]; rfl
  have hnone : ∀ n, lk n gas = none → n ∉ updNames W := by
    intro n hlk
    rw [hnames, ← hb.names.1]
    exact lk_none_names hlk
  have hblk : ∀ n d, lk n (applyU W st).pl = some d → ∀ b ∈ (GA n).blocks, (∃ (k : Nat) (g : PG) (np : Nat × Path), os[k]? = some np ∧ np.1 = n ∧ gs[k]? = some g ∧ b ∈ g.blocks) ∨ (b ∈ (G n).blocks ∧ b ∉ obs.ob ∧ ∃ d0, lk n st.pl = some d0) := by
    intro n d hd b hbb
    cases hlk : lk n gas with
    | some ga =>
      have hGA : GA n = ga := by show (lk n gas).getD (G n) = _; rw [hlk]; rfl
      rw [hGA] at hbb
      obtain ⟨k, g, x, np, h1, h2, h3, h4, h5, _, _⟩ := hent n ga hlk
      rcases h5 b hbb with h6 | ⟨h6, h7⟩
      · exact .inl ⟨k, g, np, h1, h2, h4, h6⟩
      · obtain ⟨_, _, _, _, _, dn, _, _, _, _, _, _, _, _, _, _, _, _, _, _, h8, _⟩ := hb.get hlk hn
        exact .inr ⟨PG.mem_blocks h6, h7, dn, h8⟩
    | none =>
      have hnn := hnone n hlk
      rw [hgn n hnn] at hbb
      rw [applyU_pl_other W st n hnn] at hd
      refine .inr ⟨hbb, fun ho => ?_, d, hd⟩
      obtain ⟨np, hnp, d2, hd2, hb2⟩ := hobB b ho
      refine h.apart np.1 n d2 d hd2 hd (fun e => hnn ?_) b hb2 hbb
      rw [hnames, ← e]; exact List.mem_map.2 ⟨np, hnp, rfl⟩
  have hgsob : ∀ b ∈ gs.flatMap PG.blocks, ¬ B' b ∧ (b < w.heap.size → b ∈ obs.ob) := fun b hb => hL.sep b (List.mem_append.2 (.inl hb))
  refine ⟨GA, ?_, fun n d hd b hbb => ?_⟩
  · refine h.move W w' B' GA hL.size hL.rest hL.keep hL.bsz ?_ ?_ ?_ ?_ hgn ?_ ?_ ?_ ?_
    · intro b hb hB'
      rcases hL.bold b (Nat.lt_of_lt_of_le hb h.size) hB' with hB | ho
      · exact .inl hB
      · obtain ⟨np, _, d, hd, hbd⟩ := hobB b ho
        exact .inr ((h.sep np.1 d hd).2 b hbd |>.2 hb)
    · intro b hb hno
      refine hL.old b (Nat.lt_of_lt_of_le hb h.size) fun ho => hno ?_
      obtain ⟨np, _, d, hd, hbd⟩ := hobB b ho
      exact (h.sep np.1 d hd).2 b hbd |>.2 hb
    · intro n d hd
      have hsepn : ∀ b ∈ (GA n).blocks, ¬ B' b ∧ (b < X.w0.heap.size → b ∈ X.ob) := by
        intro b hbb
        rcases hblk n d hd b hbb with ⟨k, g, np, h1, h2, h3, h4⟩ | ⟨h1, h2, d0, h3⟩
        · have hm : b ∈ gs.flatMap PG.blocks := List.mem_flatMap.2 ⟨g, List.mem_of_getElem? h3, h4⟩
          refine ⟨(hgsob b hm).1, fun hlt0 => ?_⟩
          obtain ⟨np', _, d', hd', hbd⟩ := hobB b ((hgsob b hm).2 (Nat.lt_of_lt_of_le hlt0 h.size))
          exact ((h.sep np'.1 d' hd').2 b hbd).2 hlt0
        · refine ⟨fun hB' => ?_, ((h.sep n d0 h3).2 b h1).2⟩
          rcases hL.bold b (hlt n d0 h3 b h1) hB' with hB | ho
          · exact ((h.sep n d0 h3).2 b h1).1 hB
          · exact h2 ho
      cases hlk : lk n gas with
      | some ga =>
        have hGA : GA n = ga := by show (lk n gas).getD (G n) = _; rw [hlk]; rfl
        obtain ⟨k, np, x, g, d', dn, o, b, off, pre, post, F1, F3, mid', h1, h2, h3, h4, h5, h6, h7, h8, h9, h10, h11, h12, h13, h14, h15, h16, h17, h18⟩ := hb.get hlk hn
        obtain ⟨_, _, _, _, _, _, _, _, _, hndg, _⟩ := hent n ga hlk
        rw [h6 st] at hd
        obtain rfl := Option.some.inj hd
        refine ⟨by rw [hGA]; exact h18, by rw [hGA]; exact hndg, hsepn⟩
      | none =>
        have hnn := hnone n hlk
        rw [applyU_pl_other W st n hnn] at hd
        have hsame : ∀ b ∈ (G n).blocks, Same w w' b := by
          intro b hbb
          refine hL.old b (hlt n d hd b hbb) fun ho => ?_
          obtain ⟨np, hnp, d2, hd2, hb2⟩ := hobB b ho
          refine h.apart np.1 n d2 d hd2 hd (fun e => hnn ?_) b hb2 hbb
          rw [hnames, ← e]; exact List.mem_map.2 ⟨np, hnp, rfl⟩
        rw [hgn n hnn]
        rw [hgn n hnn] at hsepn
        obtain ⟨k1, k2⟩ := h.pl n d hd
        refine ⟨⟨Rel_same (fun b hb => (hL.keep b hb).1) (fun b hb => (hL.keep b hb).2) _ _ _ _ k1 (fun b hb => hsame b (PG.mem_blocks hb)), ?_⟩, (h.sep n d hd).1, hsepn⟩
        split
        · trivial
        · rename_i ad had
          rw [had] at k2
          obtain ⟨m1, c, m2⟩ := k2
          have hs := hsame ad.1 (by unfold PG.blocks; rw [had]; simp)
          exact ⟨m1.same hs, c, m2.same hs⟩
    · intro n m d d' hd hd' hne b hbn hbm
      rcases hblk n d hd b hbn with ⟨k, g, np, h1, h2, h3, h4⟩ | ⟨h1, h2, d0, h3⟩
      · have hm : b ∈ gs.flatMap PG.blocks := List.mem_flatMap.2 ⟨g, List.mem_of_getElem? h3, h4⟩
        rcases hblk m d' hd' b hbm with ⟨k', g', np', h1', h2', h3', h4'⟩ | ⟨h1', h2', d0', h3'⟩
        · refine flatMap_disj hnd.1 h3 h3' (fun e => ?_) b h4 h4'
          subst e
          rw [h1] at h1'
          obtain rfl := Option.some.inj h1'
          exact hne (h2.symm.trans h2')
        · exact h2' ((hgsob b hm).2 (hlt m d0' h3' b h1'))
      · rcases hblk m d' hd' b hbm with ⟨k', g', np', h1', h2', h3', h4'⟩ | ⟨h1', h2', d0', h3'⟩
        · have hm : b ∈ gs.flatMap PG.blocks := List.mem_flatMap.2 ⟨g', List.mem_of_getElem? h3', h4'⟩
          exact h2 ((hgsob b hm).2 (hlt n d0 h3 b h1))
        · exact h.apart n m d0 d0' h3 h3' hne b h1 h1'
    · intro u hu
      right
      have hun : u.1 ∈ updNames W := List.mem_map.2 ⟨u, hu, rfl⟩
      cases hlk : lk u.1 gas with
      | none => exact absurd hun (hnone u.1 hlk)
      | some ga =>
        have hGA : GA u.1 = ga := by show (lk u.1 gas).getD (G u.1) = _; rw [hlk]; rfl
        obtain ⟨k, np, x, g, d', dn, o, b, off, pre, post, F1, F3, mid', h1, h2, h3, h4, h5, h6, h7, h8, h9, h10, hrest⟩ := hb.get hlk hn
        refine ⟨by rw [hGA, h10, h9], ⟨dn, d', h7, h6 st, h8⟩, .inr (.inr ⟨_, h5, rfl, rfl⟩)⟩
    · intro k' d' hk'
      cases hlk : lk (objName k') gas with
      | none =>
        have hnn := hnone _ hlk
        rw [applyU_pl_other W st _ hnn] at hk'
        rw [hgn _ hnn]
        exact h.obj k' d' hk'
      | some ga =>
        have hGA : GA (objName k') = ga := by show (lk (objName k') gas).getD _ = _; rw [hlk]; rfl
        obtain ⟨k, np, x, g, d2, dn, o, b, off, pre, post, F1, F3, mid', h1, h2, h3, h4, h5, h6, h7, h8, h9, h10, hrest⟩ := hb.get hlk hn
        rw [h6 st] at hk'
        obtain rfl := Option.some.inj hk'
        obtain ⟨b1, o1, s, m1, m2, m3⟩ := h.obj k' dn h7
        refine ⟨b1, o1, s, m1, by rw [hGA, h10, ← h9]; exact m2, by rw [size_of_sk h8]; exact m3⟩
    · intro k' b2 o2 s2 ho2 i hi
      by_cases hbo : b2 ∈ obs.ob
      · obtain ⟨x, hx, hbx⟩ := Obs.mem_ob.1 hbo
        obtain ⟨np, hnp, hgo⟩ := hg.mem x hx
        have hb2 := hgo.blocks b2 hbx
        obtain ⟨dn, o, b, off, c, pre, post, F1, F3, hd, hget, hga, hblk0, hc, hl, hF, hxa, hm, hrep⟩ := hgo
        have hd : lk np.1 st.pl = some dn := hd
        obtain ⟨d2, hd2⟩ := h.objL k' b2 o2 s2 ho2
        obtain ⟨b3, o3, s3, m1, m2, m3⟩ := h.obj k' d2 hd2
        rw [ho2] at m1
        simp only [Option.some.injEq, Prod.mk.injEq] at m1
        obtain ⟨rfl, rfl, rfl⟩ := m1
        have hbk : b2 ∈ (G (objName k')).blocks := by unfold PG.blocks; rw [m2]; simp
        have e : np.1 = objName k' := by
          by_cases e : np.1 = objName k'
          · exact e
          · exact absurd hbk (h.apart _ _ dn d2 hd hd2 e b2 hb2)
        rw [← e] at m2 hd2
        rw [hga] at m2
        simp only [Option.some.injEq, Prod.mk.injEq] at m2
        obtain ⟨rfl, rfl⟩ := m2
        rw [hd] at hd2
        obtain rfl := Option.some.inj hd2
        obtain ⟨hR, _⟩ := h.pl np.1 dn hd
        have hlen := Rel_length w B _ _ _ _ hR
        have hml := Rel_length w B _ _ _ _ hm
        rw [hc] at hlen
        simp only [List.length_append] at hlen
        exact hL.out x hx b (off + o) hxa i (by omega)
      · exact (hL.old b2 (Nat.lt_of_lt_of_le (h.oaLt k' b2 o2 s2 ho2) h.size) hbo).cell i
    · intro u hu hdel
      have hun : u.1 ∈ updNames W := List.mem_map.2 ⟨u, hu, rfl⟩
      exfalso
      have key : ∀ (os : List (Nat × Path)) (obs : Obs) (gs : List PG) (W : Upds) (gas : List (Nat × PG)), Back w w' B' G (look st) os obs gs W gas → ∀ u ∈ W, u.2.isDel = true → False := by
        intro os
        induction os with
        | nil => intro obs gs W gas hb u hu; obtain ⟨_, _, h3, _⟩ := hb; subst h3; cases hu
        | cons q os ih =>
          intro obs gs W gas hb u hu hd
          obtain ⟨x, obs', g, gs', d, W', ga, gas', dn, o, b, off, pre, post, F1, F3, mid', F', h1, h2, h3, h4, hrest⟩ := hb
          subst h3
          rcases List.mem_cons.1 hu with rfl | hu
          · cases hd
          · exact ih _ _ _ _ hrest.2.2.2.2.2.2.2.2.2.2.2.2.2 u hu hd
      exact key os obs gs W gas hb u hu hdel
  · rcases hblk n d hd b hbb with ⟨k, g, np, h1, h2, h3, h4⟩ | ⟨h1, h2, d0, h3⟩
    · exact .inl (List.mem_flatMap.2 ⟨g, List.mem_of_getElem? h3, h4⟩)
    · exact .inr ⟨hlt n d0 h3 b h1, h2⟩

end
end
end Go.Pv
