/- What a loop's head keeps holds in the machine. -/
import Derived.Test.YtmjappidghjkjaaPvAll
import Derived.Test.YtmjappidghjkjaaPvCode
namespace Go.Pv
noncomputable section
universe u v

theorem loopR_some {σ ρ : Type} {f : σ → Option (σ ⊕ ρ)} {x : σ} {r : ρ} (h : loopR f x = some r) : ∃ n, iter f n x = some r := by
  unfold loopR at h
  split at h
  · rename_i hx
    obtain rfl := Option.some.inj h
    exact ⟨_, Classical.choose_spec (Classical.choose_spec hx)⟩
  · cases h

abbrev Ent1 := Dyn × PG × Option Nat

theorem lk_mem' {α : Type} {m : Nat} {q : α} : ∀ {l : List (Nat × α)}, lk m l = some q → (m, q) ∈ l
  | (k, x) :: l, h => by
    simp only [lk] at h
    by_cases e : m = k
    · subst e
      simp only [Nat.beq_refl, cond_true, Option.some.injEq] at h
      subst h; simp
    · rw [beq_ne e] at h
      exact List.mem_cons_of_mem _ (lk_mem' h)

theorem lk_some_names {α : Type} {m : Nat} {l : List (Nat × α)} (h : m ∈ l.map (·.1)) : ∃ q, lk m l = some q := by
  cases hl : lk m l with
  | some q => exact ⟨q, rfl⟩
  | none => exact absurd h (lk_none_names hl)

theorem src_inj {α : Type} {f : Nat × α → Option Nat} {n : Nat} : ∀ {es : List (Nat × α)}, (es.filterMap f).Nodup → ∀ {x y : Nat × α}, x ∈ es → y ∈ es → x ≠ y → f x = some n → f y = some n → False
  | z :: es, hn, x, y, hx, hy, hne, h1, h2 => by
    have hrest : (es.filterMap f).Nodup := by
      rw [List.filterMap_cons] at hn
      split at hn
      · exact hn
      · exact (List.nodup_cons.1 hn).2
    have hnot : ∀ u ∈ es, f z = some n → f u = some n → False := by
      intro u hu hz hfu
      rw [List.filterMap_cons, hz] at hn
      exact (List.nodup_cons.1 hn).1 (List.mem_filterMap.2 ⟨u, hu, hfu⟩)
    rcases List.mem_cons.1 hx with e1 | hx1
    · rcases List.mem_cons.1 hy with e2 | hy1
      · exact hne (e1.trans e2.symm)
      · exact hnot y hy1 (e1 ▸ h1) h2
    · rcases List.mem_cons.1 hy with e2 | hy1
      · exact hnot x hx1 (e2 ▸ h2) h1
      · exact src_inj hrest hx1 hy1 hne h1 h2

section
variable {X : Cx} {st : St} {a : Act} {w : World} {B : Nat → Prop} {G : Nat → PG}

theorem appTy_sz (b : Bool) (e : Ty) : (appTy b e).size = 1 ∧ (appTy b e).isAgg = false := by cases b <;> exact ⟨rfl, rfl⟩

theorem pathEq_ok : ∀ {p q : Path}, pathEq p q = true → p = q
  | [], [], _ => rfl
  | .fld i :: p, .fld j :: q, h => by
    simp only [pathEq, Bool.and_eq_true] at h
    rw [Nat.eq_of_beq_eq_true h.1, pathEq_ok h.2]
  | .fld _ :: _, .idx _ :: _, h => by cases h
  | .idx _ :: _, _ :: _, h => by cases h
  | [], _ :: _, h => by cases h
  | .fld _ :: _, [], h => by cases h
  | .idx _ :: _, [], h => by cases h

/-- the slots -/
theorem absS_ok (h : Inv X st a w B G) : ∀ (l : List (Nat × SK)) (x : ShS l), (ownNames l).Nodup → absS (look st) st.env l = some x → ∃ es : List (Nat × Ent1), concO l x = es.map (fun q => (q.1, q.2.1)) ∧ es.map (·.1) = ownNames l ∧ es.filterMap (fun q => q.2.2.2) = ownSrcs st.env l ∧
    (∀ q ∈ es, q.1 % 2 = 0 ∧ PlR w B q.2.2.1 q.2.1 ∧ (∀ n, q.2.2.2 = some n → q.2.2.1 = G n ∧ ∃ d, lk n st.pl = some d) ∧ (q.2.2.2 = none → q.2.2.1.blocks = [])) ∧
    ∀ t e, lk t (concE l x) = some e → (∃ d, e = .val d ∧ d.ty.pure = true ∧ VR w B d.ty d.val (tv a t) []) ∨
      (e = .at_ (hName t) [] ∧ ∀ q, (hName t, q) ∈ es → q.2.1.cells = (tv a t).cells.toList ∧ q.1.ty.size = 1 ∧ q.1.ty.isAgg = false ∧ Value.agg? (tv a t) = false) ∨ (∃ n p, e = .loc n p ∧ (t, SK.loc n p) ∈ l ∧ EVR (tv a) w B G (look st) e (tv a t))
  | [], x, _, _ => ⟨[], rfl, rfl, rfl, by simp, by intro t e h; cases h⟩
  | (t, .dat τ) :: r, x, hn, ha => by
    simp only [absS] at ha
    obtain ⟨e, he, ha⟩ := bind_some ha
    obtain ⟨y, hy, ha⟩ := bind_some ha
    split at ha
    · rename_i ty v
      split at ha
      · rename_i hp
        simp only [Bool.and_eq_true] at hp
        obtain ⟨f, hf, ha⟩ := bind_some ha
        obtain ⟨z, hz, rfl⟩ := Option.map_eq_some_iff.1 ha
        obtain ⟨es, h1, h2, h3, h4, h5⟩ := absS_ok h r z hn hz
        refine ⟨es, h1, h2, h3, h4, fun t' e' hl => ?_⟩
        simp only [concE, lk] at hl
        by_cases et : t' = t
        · subst et
          simp only [Nat.beq_refl, cond_true, Option.some.injEq] at hl
          subst hl
          have hv := val_ok h (h.env _ e he) hy hp.1
          simp only [EVR] at hv
          exact .inl ⟨_, rfl, hp.2, cv_rel ty τ f hf v _ _ hv.2.1, by rw [hv.2.2]; exact cv_agg ty τ f hf⟩
        · rw [beq_ne et] at hl
          rcases h5 t' e' hl with h6 | h6 | ⟨n, p, h6, h7, h8⟩
          · exact .inl h6
          · exact .inr (.inl h6)
          · exact .inr (.inr ⟨n, p, h6, by simp [h7], h8⟩)
      · cases ha
    · cases ha
  | (t, .loc n p) :: r, x, hn, ha => by
    simp only [absS] at ha
    obtain ⟨e, he, ha⟩ := bind_some ha
    split at ha
    · rename_i m q
      split at ha
      · rename_i hk
        simp only [Bool.and_eq_true] at hk
        obtain rfl := Nat.eq_of_beq_eq_true hk.1
        obtain rfl := pathEq_ok hk.2
        obtain ⟨es, h1, h2, h3, h4, h5⟩ := absS_ok h r x hn ha
        refine ⟨es, h1, h2, h3, h4, fun t' e' hl => ?_⟩
        simp only [concE, lk] at hl
        by_cases et : t' = t
        · subst et
          simp only [Nat.beq_refl, cond_true, Option.some.injEq] at hl
          subst hl
          exact .inr (.inr ⟨n, p, rfl, by simp, h.env _ _ he⟩)
        · rw [beq_ne et] at hl
          rcases h5 t' e' hl with h6 | h6 | ⟨n', p', h6, h7, h8⟩
          · exact .inl h6
          · exact .inr (.inl h6)
          · exact .inr (.inr ⟨n', p', h6, by simp [h7], h8⟩)
      · cases ha
    · cases ha
  | (t, .own e b) :: r, x, hn, ha => by
    simp only [absS] at ha
    obtain ⟨ev, he, ha⟩ := bind_some ha
    -- one entry, and the others
    have step : ∀ (d : T (appTy b e)) (z : ShS r) (g : PG) (src : Option Nat), absS (look st) st.env r = some z → x = (d, z) → PlR w B g ⟨appTy b e, d⟩ → (∀ n, src = some n → g = G n ∧ ∃ d, lk n st.pl = some d) → (src = none → g.blocks = []) →
        g.cells = (tv a t).cells.toList → Value.agg? (tv a t) = false → ownSrcs st.env ((t, .own e b) :: r) = (match src with | some n => n :: ownSrcs st.env r | none => ownSrcs st.env r) →
        ∃ es : List (Nat × Ent1), concO ((t, .own e b) :: r) x = es.map (fun q => (q.1, q.2.1)) ∧ es.map (·.1) = ownNames ((t, .own e b) :: r) ∧ es.filterMap (fun q => q.2.2.2) = ownSrcs st.env ((t, .own e b) :: r) ∧
          (∀ q ∈ es, q.1 % 2 = 0 ∧ PlR w B q.2.2.1 q.2.1 ∧ (∀ n, q.2.2.2 = some n → q.2.2.1 = G n ∧ ∃ d, lk n st.pl = some d) ∧ (q.2.2.2 = none → q.2.2.1.blocks = [])) ∧
          ∀ t' e', lk t' (concE ((t, .own e b) :: r) x) = some e' → (∃ d, e' = .val d ∧ d.ty.pure = true ∧ VR w B d.ty d.val (tv a t') []) ∨
            (e' = .at_ (hName t') [] ∧ ∀ q, (hName t', q) ∈ es → q.2.1.cells = (tv a t').cells.toList ∧ q.1.ty.size = 1 ∧ q.1.ty.isAgg = false ∧ Value.agg? (tv a t') = false) ∨ (∃ n p, e' = .loc n p ∧ (t', SK.loc n p) ∈ ((t, .own e b) :: r) ∧ EVR (tv a) w B G (look st) e' (tv a t')) := by
      intro d z g src hz hx hpl hs1 hs2 hc hag hsrc
      subst hx
      have hn1 := List.nodup_cons.1 (show (hName t :: ownNames r).Nodup from hn)
      obtain ⟨es, h1, h2, h3, h4, h5⟩ := absS_ok h r z hn1.2 hz
      refine ⟨(hName t, (⟨appTy b e, d⟩, g, src)) :: es, by simp [concO, h1], by simp [ownNames, h2], ?_, ?_, ?_⟩
      · rw [List.filterMap_cons, hsrc]
        cases src with
        | none => simpa using h3
        | some n => simpa using h3
      · intro q hq
        rcases List.mem_cons.1 hq with rfl | hq
        · exact ⟨by show hName t % 2 = 0; unfold hName; omega, hpl, hs1, hs2⟩
        · exact h4 q hq
      · intro t' e' hl
        simp only [concE, lk] at hl
        have hone : ∀ q, (hName t, q) ∈ (hName t, ((⟨appTy b e, d⟩ : Dyn), g, src)) :: es → (q = ((⟨appTy b e, d⟩ : Dyn), g, src)) ∨ (hName t, q) ∈ es := by
          intro q hq
          rcases List.mem_cons.1 hq with hq | hq
          · exact .inl (Prod.mk.inj hq).2
          · exact .inr hq
        by_cases et : t' = t
        · subst et
          simp only [Nat.beq_refl, cond_true, Option.some.injEq] at hl
          subst hl
          refine .inr (.inl ⟨rfl, fun q hq => ?_⟩)
          rcases hone q hq with rfl | hq
          · exact ⟨hc, (appTy_sz b e).1, (appTy_sz b e).2, hag⟩
          · exact absurd (by rw [← h2]; exact List.mem_map.2 ⟨_, hq, rfl⟩) hn1.1
        · rw [beq_ne et] at hl
          rcases h5 t' e' hl with h6 | ⟨h6, h7⟩ | ⟨n, p, h6, h7, h8⟩
          · exact .inl h6
          · refine .inr (.inl ⟨h6, fun q hq => ?_⟩)
            rcases List.mem_cons.1 hq with hq | hq
            · have := (Prod.mk.inj hq).1
              unfold hName at this
              omega
            · exact h7 q hq
          · exact .inr (.inr ⟨n, p, h6, by simp [h7], h8⟩)
    split at ha
    · rename_i n
      split at ha
      · rename_i hev
        obtain ⟨d, hd, ha⟩ := bind_some ha
        obtain ⟨f, hf, ha⟩ := bind_some ha
        obtain ⟨z, hz, rfl⟩ := Option.map_eq_some_iff.1 ha
        have hd : lk n st.pl = some d := hd
        have hev := h.env t _ he
        simp only [EVR] at hev
        obtain ⟨d1, o1, u1, hd1, ho1, hvc, hva⟩ := hev
        have hd1 : lk n st.pl = some d1 := hd1
        rw [hd] at hd1
        obtain rfl := Option.some.inj hd1
        simp only [offP, Option.some.injEq, Prod.mk.injEq] at ho1
        obtain ⟨rfl, rfl⟩ := ho1
        obtain ⟨hR, hA⟩ := h.pl n d hd
        have hR2 := cv_rel d.ty (appTy b e) f hf d.val _ _ hR
        have hl1 := Rel_length w B _ _ _ _ hR
        have hl2 := Rel_length w B _ _ _ _ hR2
        refine step (f d.val) z (G n) (some n) hz rfl ⟨hR2, hA⟩ (fun m hm => by obtain rfl := Option.some.inj hm; exact ⟨rfl, d, hd⟩) (by simp) ?_ ?_ (by simp [ownSrcs, he])
        · rw [hvc, List.drop_zero, ← hl1, List.take_length]
        · rw [hva, cv_agg d.ty (appTy b e) f hf, (appTy_sz b e).2]
      · cases ha
    · rename_i d
      split at ha
      · rename_i hp
        obtain ⟨f, hf, ha⟩ := bind_some ha
        obtain ⟨z, hz, rfl⟩ := Option.map_eq_some_iff.1 ha
        have hev := h.env t _ he
        simp only [EVR] at hev
        refine step (f d.val) z ⟨none, (tv a t).cells.toList, []⟩ none hz rfl ⟨cv_rel d.ty (appTy b e) f hf d.val _ _ hev.2.1, trivial⟩ (by simp) (fun _ => rfl) rfl ?_ (by simp [ownSrcs, he])
        rw [hev.2.2, cv_agg d.ty (appTy b e) f hf, (appTy_sz b e).2]
      · cases ha
    · cases ha

/-- the places that keep their names -/
theorem absP_ok (h : Inv X st a w B G) : ∀ (l : List (Nat × Ty)) (x : PlS l), absP (look st) l = some x → ∃ es : List (Nat × Ent1), concP l x = es.map (fun q => (q.1, q.2.1)) ∧ es.map (·.1) = l.map (·.1) ∧ es.filterMap (fun q => q.2.2.2) = l.map (·.1) ∧
    ∀ q ∈ es, q.2.2.2 = some q.1 ∧ q.2.2.1 = G q.1 ∧ PlR w B (G q.1) q.2.1 ∧ ∃ d, lk q.1 st.pl = some d ∧ sk q.2.1.ty = sk d.ty
  | [], x, _ => ⟨[], rfl, rfl, rfl, by simp⟩
  | (n, τ) :: r, x, ha => by
    simp only [absP] at ha
    obtain ⟨d, hd, ha⟩ := bind_some ha
    split at ha
    · rename_i hsk
      obtain ⟨f, hf, ha⟩ := bind_some ha
      obtain ⟨z, hz, rfl⟩ := Option.map_eq_some_iff.1 ha
      obtain ⟨es, h1, h2, h3, h4⟩ := absP_ok h r z hz
      have hd : lk n st.pl = some d := hd
      refine ⟨(n, (⟨τ, f d.val⟩, G n, some n)) :: es, by simp [concP, h1], by simp [h2], by simp [h3], ?_⟩
      intro q hq
      rcases List.mem_cons.1 hq with rfl | hq
      · obtain ⟨hR, hA⟩ := h.pl n d hd
        exact ⟨rfl, rfl, ⟨cv_rel d.ty τ f hf d.val _ _ hR, hA⟩, d, hd, hsk.symm⟩
      · exact h4 q hq
    · cases ha

theorem locsIn_ok {names : List Nat} : ∀ {l : List (Nat × SK)}, locsIn names l = true → ∀ t n p, (t, SK.loc n p) ∈ l → n ∈ names
  | [], _, _, _, _, h => by cases h
  | (s, .loc m q) :: l, hk, t, n, p, h => by
    simp only [locsIn, Bool.and_eq_true] at hk
    rcases List.mem_cons.1 h with h | h
    · simp only [Prod.mk.injEq, SK.loc.injEq] at h
      obtain ⟨_, rfl, _⟩ := h
      obtain ⟨x, hx, he⟩ := List.any_eq_true.1 hk.1
      rw [Nat.eq_of_beq_eq_true he]; exact hx
    · exact locsIn_ok hk.2 t n p h
  | (s, .dat τ) :: l, hk, t, n, p, h => by
    rcases List.mem_cons.1 h with h | h
    · simp at h
    · exact locsIn_ok (l := l) hk t n p h
  | (s, .own e b) :: l, hk, t, n, p, h => by
    rcases List.mem_cons.1 h with h | h
    · simp at h
    · exact locsIn_ok (l := l) hk t n p h

theorem upTo_mem : ∀ (n k : Nat), k < n → k ∈ upTo n
  | n + 1, k, h => by
    simp only [upTo, List.mem_cons]
    rcases Nat.lt_succ_iff_lt_or_eq.1 h with h | h
    · exact .inr (upTo_mem n k h)
    · exact .inl h

theorem own_in {t : Nat} : ∀ (l : List (Nat × SK)) (x : ShS l), lk t (concE l x) = some (.at_ (hName t) []) → hName t ∈ ownNames l := by
  intro l
  induction l with
  | nil => intro x h; cases h
  | cons s l ih =>
    intro x hx
    obtain ⟨s1, s2⟩ := s
    by_cases e1 : t = s1
    · subst e1
      cases s2 with
      | dat τ => simp [concE, lk] at hx
      | loc n p => simp [concE, lk] at hx
      | own e b => simp [ownNames]
    · cases s2 with
      | dat τ => simp only [concE, lk, beq_ne e1, cond_false] at hx; simpa [ownNames] using ih x.2 hx
      | loc n p => simp only [concE, lk, beq_ne e1, cond_false] at hx; simpa [ownNames] using ih x hx
      | own e b => simp only [concE, lk, beq_ne e1, cond_false] at hx; simp [ownNames, ih x.2 hx]

/-- a loop's head -/
theorem abs_ok (h : Inv X st a w B G) {nob : Nat} (hnob : ∀ k, nob ≤ k → X.oa k = none) {sh : Shape} {x : Sg sh} (ha : abs nob sh st = some x) : ∃ G', Inv X (conc sh x) a w B G' := by
  unfold abs at ha
  split at ha
  · rename_i hk
    simp only [Bool.and_eq_true] at hk
    obtain ⟨hok, hsrc⟩ := hk
    unfold Shape.ok at hok
    simp only [Bool.and_eq_true] at hok
    obtain ⟨⟨hnd, hloc⟩, hobj⟩ := hok
    have hnd := nodupN_ok _ hnd
    have hsrc := nodupN_ok _ hsrc
    obtain ⟨x1, h1, ha⟩ := bind_some ha
    obtain ⟨x2, h2, rfl⟩ := Option.map_eq_some_iff.1 ha
    obtain ⟨es1, a1, a2, a3, a4, a5⟩ := absS_ok h sh.slots x1 (List.nodup_append.1 hnd).1 h1
    obtain ⟨es2, b1, b2, b3, b4⟩ := absP_ok h sh.pls x2 h2
    let es := es1 ++ es2
    have hpl : (conc sh (x1, x2)).pl = es.map (fun q => (q.1, q.2.1)) := by
      show concO sh.slots x1 ++ concP sh.pls x2 = _
      rw [a1, b1, ← List.map_append]
    have hes : (es.map (·.1)).Nodup := by
      show ((es1 ++ es2).map (·.1)).Nodup
      rw [List.map_append, a2, b2]; exact hnd
    have hsrcs : (es.filterMap (fun q => q.2.2.2)).Nodup := by
      show ((es1 ++ es2).filterMap _).Nodup
      rw [List.filterMap_append, a3, b3]; exact hsrc
    let G' : Nat → PG := fun m => match lk m es with | some q => q.2.1 | none => ⟨none, [], []⟩
    have hlk : ∀ m, lk m (conc sh (x1, x2)).pl = (lk m es).map fun q => q.1 := by
      intro m
      rw [hpl]
      exact lk_map (fun q : Nat × Ent1 => q.2.1) m es
    have hG : ∀ m q, lk m es = some q → G' m = q.2.1 := fun m q hq => by show (match lk m es with | some q => q.2.1 | none => _) = _; rw [hq]
    -- each entry
    have hent : ∀ m q, lk m es = some q → PlR w B q.2.1 q.1 ∧ (∀ n, q.2.2 = some n → q.2.1 = G n ∧ ∃ d, lk n st.pl = some d) ∧ (q.2.2 = none → q.2.1.blocks = []) := by
      intro m q hq
      have hm := lk_mem' hq
      rcases List.mem_append.1 hm with hm | hm
      · obtain ⟨_, k1, k2, k3⟩ := a4 _ hm
        exact ⟨k1, k2, k3⟩
      · obtain ⟨k1, k2, k3, d, k4, k5⟩ := b4 _ hm
        have k1 : q.2.2 = some m := k1
        have k2 : q.2.1 = G m := k2
        refine ⟨by rw [k2]; exact k3, fun n hn => ?_, fun hn => by rw [k1] at hn; cases hn⟩
        rw [k1] at hn
        obtain rfl := Option.some.inj hn
        exact ⟨k2, d, k4⟩
    have hsep : ∀ m q, lk m es = some q → q.2.1.blocks.Nodup ∧ ∀ b ∈ q.2.1.blocks, ¬ B b ∧ (b < X.w0.heap.size → b ∈ X.ob) := by
      intro m q hq
      obtain ⟨_, k2, k3⟩ := hent m q hq
      cases hs : q.2.2 with
      | none => rw [k3 hs]; simp
      | some n =>
        obtain ⟨e, d, hd⟩ := k2 n hs
        rw [e]; exact h.sep n d hd
    have hodd : ∀ k q, lk (objName k) es = some q → q.2.2 = some (objName k) ∧ q.2.1 = G (objName k) ∧ ∃ d, lk (objName k) st.pl = some d ∧ sk q.1.ty = sk d.ty := by
      intro k q hq
      rcases List.mem_append.1 (lk_mem' hq) with hm | hm
      · have := (a4 _ hm).1
        simp only at this
        unfold objName at this
        omega
      · obtain ⟨k1, k2, k3, d, k4, k5⟩ := b4 _ hm
        exact ⟨k1, k2, d, k4, k5⟩
    refine ⟨G', h.defers, h.nt, h.bsz, h.b0, h.bold, ?_, ?_, ?_, ?_, h.size, h.old, h.rest, ?_, h.oaLt, ?_, h.objR⟩
    · intro t e he
      rcases a5 t e he with ⟨d, rfl, hp, hv⟩ | ⟨rfl, hq⟩ | ⟨n, p, rfl, hm, hv⟩
      · simp only [EVR]; exact ⟨hp, hv⟩
      · have hin : hName t ∈ es.map (·.1) := by
          show hName t ∈ (es1 ++ es2).map (·.1)
          rw [List.map_append, a2]
          exact List.mem_append.2 (.inl (own_in _ _ he))
        obtain ⟨q, hql⟩ := lk_some_names hin
        have hmem : (hName t, q) ∈ es1 := by
          rcases List.mem_append.1 (lk_mem' hql) with hm | hm
          · exact hm
          · exfalso
            have h1' : hName t ∈ ownNames sh.slots := own_in _ _ he
            exact (List.nodup_append.1 hnd).2.2 _ h1' _ (by rw [← b2]; exact List.mem_map.2 ⟨_, hm, rfl⟩) rfl
        obtain ⟨k1, k2, k3, k4⟩ := hq q hmem
        simp only [EVR]
        refine ⟨q.1, 0, q.1.ty, by show lk _ _ = _; rw [hlk, hql]; rfl, rfl, ?_, by rw [k4, k3]⟩
        rw [hG _ q hql, k1, List.drop_zero, k2]
        have hl := Rel_length w B _ _ _ _ (hent _ q hql).1.1
        rw [k2, k1] at hl
        rw [← hl, List.take_length]
      · have hnm := locsIn_ok hloc t n p hm
        have hin : n ∈ es.map (·.1) := by
          show n ∈ (es1 ++ es2).map (·.1)
          rw [List.map_append, b2]
          exact List.mem_append.2 (.inr hnm)
        obtain ⟨q, hql⟩ := lk_some_names hin
        have hmem : (n, q) ∈ es2 := by
          rcases List.mem_append.1 (lk_mem' hql) with hm | hm
          · exfalso
            exact (List.nodup_append.1 hnd).2.2 n (by rw [← a2]; exact List.mem_map.2 ⟨_, hm, rfl⟩) n hnm rfl
          · exact hm
        obtain ⟨k1, k2, k3, d, k4, k5⟩ := b4 _ hmem
        simp only [EVR] at hv ⊢
        obtain ⟨d1, o, u, b, off, hd1, ho, hg, hvv⟩ := hv
        have hd1 : lk n st.pl = some d1 := hd1
        have k4 : lk n st.pl = some d := k4
        rw [k4] at hd1
        obtain rfl := Option.some.inj hd1
        obtain ⟨u', ho', _⟩ := offP_alike ho k5
        refine ⟨q.1, o, u', b, off, by show lk _ _ = _; rw [hlk, hql]; rfl, ho', ?_, hvv⟩
        rw [hG _ q hql]
        have k2 : q.2.1 = G n := k2
        rw [k2]; exact hg
    · intro m d hd
      rw [hlk] at hd
      obtain ⟨q, hq, rfl⟩ := Option.map_eq_some_iff.1 hd
      rw [hG m q hq]; exact (hent m q hq).1
    · intro m d hd
      rw [hlk] at hd
      obtain ⟨q, hq, rfl⟩ := Option.map_eq_some_iff.1 hd
      rw [hG m q hq]; exact hsep m q hq
    · intro m m' d d' hd hd' hne b hb hb'
      rw [hlk] at hd hd'
      obtain ⟨q, hq, rfl⟩ := Option.map_eq_some_iff.1 hd
      obtain ⟨q', hq', rfl⟩ := Option.map_eq_some_iff.1 hd'
      rw [hG m q hq] at hb
      rw [hG m' q' hq'] at hb'
      obtain ⟨_, k2, k3⟩ := hent m q hq
      obtain ⟨_, k2', k3'⟩ := hent m' q' hq'
      cases hs : q.2.2 with
      | none => rw [k3 hs] at hb; cases hb
      | some n =>
        cases hs' : q'.2.2 with
        | none => rw [k3' hs'] at hb'; cases hb'
        | some n' =>
          obtain ⟨e1, d1, hd1⟩ := k2 n hs
          obtain ⟨e2, d2, hd2⟩ := k2' n' hs'
          have hnn : n ≠ n' := by
            intro e
            subst e
            exact src_inj hsrcs (lk_mem' hq) (lk_mem' hq') (fun e => hne (Prod.mk.inj e).1) hs hs'
          rw [e1] at hb; rw [e2] at hb'
          exact h.apart n n' d1 d2 hd1 hd2 hnn b hb hb'
    · intro k d hd
      rw [hlk] at hd
      obtain ⟨q, hq, rfl⟩ := Option.map_eq_some_iff.1 hd
      obtain ⟨k1, k2, d0, k3, k4⟩ := hodd k q hq
      obtain ⟨b, o, s, m1, m2, m3⟩ := h.obj k d0 k3
      exact ⟨b, o, s, m1, by rw [hG _ q hq, k2]; exact m2, by rw [size_of_sk k4]; exact m3⟩
    · intro k b o s ho
      have hkn : k < nob := by
        rcases Nat.lt_or_ge k nob with h | h
        · exact h
        · rw [hnob k h] at ho; cases ho
      have := List.all_eq_true.1 hobj k (upTo_mem nob k hkn)
      obtain ⟨n, hn, he⟩ := List.any_eq_true.1 this
      have he := Nat.eq_of_beq_eq_true he
      have hin : objName k ∈ es.map (·.1) := by
        show objName k ∈ (es1 ++ es2).map (·.1)
        rw [List.map_append, b2, he]
        exact List.mem_append.2 (.inr hn)
      obtain ⟨q, hq⟩ := lk_some_names hin
      exact ⟨q.1, by rw [hlk, hq]; rfl⟩
  · cases ha

end
end
end Go.Pv
