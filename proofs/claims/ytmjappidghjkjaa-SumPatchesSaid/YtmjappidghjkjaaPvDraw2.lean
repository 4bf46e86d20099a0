/- Operations that know nothing of one another change places. -/
import Derived.Test.YtmjappidghjkjaaPvDraw
namespace Go.Pv
noncomputable section

/-! ### footprints -/
def slotEVs (env : Env) : List Nat → List EV
  | [] => []
  | t :: r => match lk t env with
    | some e => e :: slotEVs env r
    | none => slotEVs env r

def EV.live : EV → Bool
  | .dead => false
  | _ => true

structure Foot where
  dst : Option Nat
  slots : List Nat
  look : List Nat
  hit : List Nat
  hang : List Nat
  hangO : List Nat
  kills : List Nat
  chg : List Nat
  out : List Nat

def footOf (ops : Array Oper) (o : Oper) (env : Env) (e : EV) (U : Upds) : Foot :=
  let sl := o.looksAt ops
  let evs := slotEVs env sl
  let hit := evs.flatMap EV.names
  ⟨o.dst, sl, bif lookFree o.op && o.guard.isNone then [] else hit, hit, evs.flatMap EV.hangN, e.hangN, killNames U, updNames U, e.names⟩

def memN (n : Nat) (l : List Nat) : Bool := l.any fun m => Nat.beq n m
def disjN (a b : List Nat) : Bool := a.all fun n => !memN n b
def notIn (d : Option Nat) (l : List Nat) : Bool := match d with
  | none => true
  | some d => !memN d l

/-- f, earlier in the text, and g know nothing of one another -/
def apartF (f g : Foot) : Bool :=
  notIn f.dst g.slots && (notIn g.dst f.slots && (notIn f.dst g.dst.toList && (disjN f.chg g.look && (disjN f.chg g.chg && (disjN g.chg f.look && (disjN g.kills f.hit && (disjN g.kills f.out && (disjN f.kills g.out && (notIn g.dst f.hang && (notIn g.dst f.hangO && notIn f.dst g.hangO))))))))))

theorem memN_iff {n : Nat} {l : List Nat} : memN n l = true ↔ n ∈ l := by
  unfold memN
  rw [List.any_eq_true]
  exact ⟨fun ⟨m, hm, h⟩ => by rw [Nat.eq_of_beq_eq_true h]; exact hm, fun h => ⟨n, h, Nat.beq_refl n⟩⟩

theorem memN_not {n : Nat} {l : List Nat} (h : (!memN n l) = true) : n ∉ l := fun hm => by
  rw [memN_iff.2 hm] at h; cases h

theorem disjN_spec {a b : List Nat} (h : disjN a b = true) : ∀ n ∈ a, n ∉ b := fun n hn => memN_not (List.all_eq_true.1 h n hn)

theorem notIn_spec {d : Option Nat} {l : List Nat} (h : notIn d l = true) : ∀ t, d = some t → t ∉ l := fun t ht => by
  subst ht
  exact memN_not h

theorem apartF_spec {f g : Foot} (h : apartF f g = true) : (∀ t, f.dst = some t → t ∉ g.slots) ∧ (∀ t, g.dst = some t → t ∉ f.slots) ∧ (∀ t, f.dst = some t → g.dst ≠ some t) ∧ (∀ n ∈ f.chg, n ∉ g.look) ∧ (∀ n ∈ f.chg, n ∉ g.chg) ∧ (∀ n ∈ g.chg, n ∉ f.look) ∧
    (∀ n ∈ g.kills, n ∉ f.hit) ∧ (∀ n ∈ g.kills, n ∉ f.out) ∧ (∀ n ∈ f.kills, n ∉ g.out) ∧ (∀ t, g.dst = some t → t ∉ f.hang) ∧ (∀ t, g.dst = some t → t ∉ f.hangO) ∧ (∀ t, f.dst = some t → t ∉ g.hangO) := by
  unfold apartF at h
  simp only [Bool.and_eq_true] at h
  obtain ⟨h1, h2, h3, h4, h5, h6, h7, h8, h9, h10, h11, h12⟩ := h
  exact ⟨notIn_spec h1, notIn_spec h2, fun t ht hg => notIn_spec h3 t ht (by rw [hg]; simp), disjN_spec h4, disjN_spec h5, disjN_spec h6, disjN_spec h7, disjN_spec h8, disjN_spec h9, notIn_spec h10, notIn_spec h11, notIn_spec h12⟩

theorem slotEVs_mem : ∀ {l : List Nat} {env : Env} {t : Nat} {e : EV}, t ∈ l → lk t env = some e → e ∈ slotEVs env l
  | s :: l, env, t, e, ht, he => by
    simp only [slotEVs]
    rcases List.mem_cons.1 ht with rfl | ht
    · rw [he]; simp
    · cases lk s env with
      | none => exact slotEVs_mem ht he
      | some x => exact List.mem_cons_of_mem _ (slotEVs_mem ht he)

theorem slotEVs_cong : ∀ {l : List Nat} {env env' : Env}, (∀ t ∈ l, lk t env' = lk t env) → slotEVs env' l = slotEVs env l
  | [], _, _, _ => rfl
  | s :: l, env, env', h => by
    simp only [slotEVs]
    rw [h s (by simp), slotEVs_cong fun t ht => h t (by simp [ht])]

theorem footOf_cong {ops : Array Oper} {o : Oper} {env env' : Env} {e : EV} {U : Upds} (h : ∀ t ∈ o.looksAt ops, lk t env' = lk t env) : footOf ops o env' e U = footOf ops o env e U := by
  unfold footOf
  dsimp only
  rw [slotEVs_cong h]

/-! ### an operation's outcome hangs on its footprint only -/
section
variable {P : Program} {Γ : Nat → Option CSem} {ops : Array Oper}

theorem Eop_cong {env env' : Env} {g : Option (Nat × Bool)} {x : Operand} (h : ∀ t, x = .tmp t → lk t env' = lk t env) : Eop env' g x = Eop env g x := by
  cases x with
  | tmp t => simp only [Eop]; rw [h t rfl]
  | _ => rfl

theorem Eop_ag {L L' : Look} {env : Env} {g : Option (Nat × Bool)} {x : Operand} (h : ∀ t e, x = .tmp t → lk t env = some e → Ag L L' e) {v : EV} (hv : Eop env g x = some v) : Ag L L' v := by
  cases x with
  | tmp t =>
    simp only [Eop] at hv
    cases he : lk t env with
    | none => rw [he] at hv; cases hv
    | some e =>
      have := h t e rfl he
      rw [he] at hv
      cases e with
      | maybe t' w u =>
        have hu : Ag L L' u := fun n hn => this n (by simpa only [EV.hits] using hn)
        cases g with
        | none => simp only [Option.some.injEq] at hv; subst hv; exact this
        | some gg =>
          simp only at hv
          cases hb : (Nat.beq gg.1 t' && gg.2 == w) with
          | true => rw [hb] at hv; simp only [cond_true, Option.some.injEq] at hv; subst hv; exact hu
          | false => rw [hb] at hv; simp only [cond_false, Option.some.injEq] at hv; subst hv; exact this
      | _ => simp only [Option.some.injEq] at hv; subst hv; exact this
  | const c =>
    simp only [Eop, Option.some.injEq] at hv; subst hv
    intro n hn; simp [EV.hits] at hn
  | func f =>
    simp only [Eop, Option.some.injEq] at hv; subst hv
    intro n hn; simp [EV.hits, EV.hitsL] at hn
  | global _ => cases hv

theorem opE_env {L : Look} {env env' : Env} {g : Option (Nat × Bool)} {dst : Nat} {op : Op} {ty : TypeId} (h : ∀ t, Operand.tmp t ∈ op.operands → lk t env' = lk t env) : opE P Γ L env' g dst op ty = opE P Γ L env g dst op ty := by
  have hE : ∀ g, ∀ x ∈ op.operands, Eop env' g x = Eop env g x := fun g x hx => Eop_cong fun t ht => h t (ht ▸ hx)
  unfold opE
  split
  · rename_i t a b
    unfold pickOp
    rw [hE none (.tmp t) (by simp [Op.operands]), hE (some (t, true)) a (by simp [Op.operands]), hE (some (t, false)) b (by simp [Op.operands])]
  · exact evalOp_E (hE g)

theorem opE_look {L L' : Look} {env : Env} {g : Option (Nat × Bool)} {dst : Nat} {op : Op} {ty : TypeId} (h : lookFree op = true ∨ ∀ t e, Operand.tmp t ∈ op.operands → lk t env = some e → Ag L L' e) : opE P Γ L env g dst op ty = opE P Γ L' env g dst op ty := by
  rcases h with h | h
  · unfold opE
    split
    · simp [lookFree] at h
    · exact evalOp_free h
  · have hE : ∀ g, ∀ x ∈ op.operands, ∀ v, Eop env g x = some v → Ag L L' v := fun g x hx v hv => Eop_ag (fun t e ht he => h t e (ht ▸ hx) he) hv
    unfold opE
    split
    · rename_i t a b
      exact pickOp_ag (hE none (.tmp t) (by simp [Op.operands])) (hE (some (t, true)) a (by simp [Op.operands])) (hE (some (t, false)) b (by simp [Op.operands]))
    · exact evalOp_ag (hE g)

theorem mergeU_cong {b : Bool} {L L' : Look} : ∀ {U : Upds}, (∀ n ∈ updNames U, L' n = L n) → mergeU b L' U = mergeU b L U
  | [], _ => rfl
  | (n, .set d) :: r, h => by
    have h1 : L' n = L n := h n (by simp [updNames])
    have h2 := mergeU_cong (b := b) (L := L) (L' := L') (U := r) fun m hm => h m (by simp only [updNames] at hm ⊢; simp [hm])
    simp only [mergeU]
    rw [h1, h2]
  | (n, .keep d) :: r, h => by
    have h1 : L' n = L n := h n (by simp [updNames])
    have h2 := mergeU_cong (b := b) (L := L) (L' := L') (U := r) fun m hm => h m (by simp only [updNames] at hm ⊢; simp [hm])
    simp only [mergeU]
    rw [h1, h2]
  | (n, .del) :: r, _ => rfl
  | (n, .new _) :: r, _ => rfl

theorem mergeU_names {b : Bool} {L : Look} : ∀ {U u : Upds}, mergeU b L U = some u → updNames u = updNames U
  | [], u, h => by simp only [mergeU, Option.some.injEq] at h; subst h; rfl
  | (n, .set d) :: r, u, h => by
    simp only [mergeU] at h
    obtain ⟨o, _, h⟩ := bind_some h
    split at h
    · obtain ⟨z, hz, rfl⟩ := Option.map_eq_some_iff.1 h
      simp only [updNames, List.map_cons]
      congr 1
      exact mergeU_names hz
    · cases h
  | (n, .keep d) :: r, u, h => by
    simp only [mergeU] at h
    obtain ⟨o, _, h⟩ := bind_some h
    split at h
    · obtain ⟨z, hz, rfl⟩ := Option.map_eq_some_iff.1 h
      simp only [updNames, List.map_cons]
      congr 1
      exact mergeU_names hz
    · cases h
  | (n, .del) :: r, u, h => by cases h
  | (n, .new _) :: r, u, h => by cases h

theorem tmp_looks {o : Oper} {t : Nat} (h : Operand.tmp t ∈ o.op.operands) : t ∈ o.looksAt ops :=
  List.mem_append_left _ (List.mem_filterMap.2 ⟨.tmp t, by simpa using h, rfl⟩)

theorem Prod_local {o : Oper} {s s' : St} {e : EV} {U : Upds} (h : Prod P Γ ops o s e U) (hs : ∀ t ∈ o.looksAt ops, lk t s'.env = lk t s.env) (hl : ∀ n ∈ (footOf ops o s.env e U).look, lk n s'.pl = lk n s.pl) (hc : ∀ n ∈ (footOf ops o s.env e U).chg, lk n s'.pl = lk n s.pl) : Prod P Γ ops o s' e U := by
  have hag : (lookFree o.op && o.guard.isNone) = false → ∀ t e', t ∈ o.looksAt ops → lk t s.env = some e' → Ag (look s) (look s') e' := fun hf t e' ht he' n hn => by
    refine (hl n ?_).symm
    simp only [footOf, hf, cond_false, List.mem_flatMap]
    exact ⟨e', slotEVs_mem ht he', hits_names e' n true hn⟩
  have hop : ∀ g, opE P Γ (look s') s'.env g (o.dst.getD 0) o.op o.type = opE P Γ (look s) s.env g (o.dst.getD 0) o.op o.type := fun g => by
    rw [opE_env (env := s.env) (env' := s'.env) fun t ht => hs t (tmp_looks ht)]
    refine (opE_look ?_).symm
    cases hf : lookFree o.op with
    | true => exact .inl rfl
    | false => exact .inr fun t e' ht he' => hag (by rw [hf]; rfl) t e' (tmp_looks ht) he'
  rcases h with ⟨hgd, r, x, h1, h2, h3, h4⟩ | ⟨j, want, t, g, r, x, hgd, hg, h1, h2, h3, h4⟩
  · exact .inl ⟨hgd, r, x, by rw [hop]; exact h1, h2, h3, h4⟩
  · refine .inr ⟨j, want, t, g, r, x, hgd, ?_, by rw [hop]; exact h1, h2, ?_, h4⟩
    · rw [← hg]
      unfold guardE
      cases hj : ops[j]? with
      | none => rfl
      | some oj =>
        simp only [Option.bind_some]
        cases hd : oj.dst with
        | none => rfl
        | some d =>
          simp only [Option.bind_some]
          have hdl : d ∈ o.looksAt ops := List.mem_append_right _ (by rw [hgd]; simp [hj, hd])
          rw [hs d hdl]
          cases hv : lk d s.env with
          | none => rfl
          | some v =>
            simp only [Option.bind_some]
            have := hag (by rw [hgd]; simp) d v hdl hv
            rw [this.rd]
    · rw [← h3]
      have hn := mergeU_names h3
      exact mergeU_cong fun n hn' => hc n (by simp only [footOf]; rw [hn]; exact hn')

/-! ### swapping -/
/-- the same slots, the same places -/
def Like (s t : St) : Prop := (∀ n, lk n t.env = lk n s.env) ∧ ∀ n, lk n t.pl = lk n s.pl

theorem Like.rfl' (s : St) : Like s s := ⟨fun _ => rfl, fun _ => rfl⟩
theorem Like.trans {s t u : St} (h : Like s t) (h' : Like t u) : Like s u := ⟨fun n => (h'.1 n).trans (h.1 n), fun n => (h'.2 n).trans (h.2 n)⟩

structure Item where
  idx : Nat
  o : Oper
  e : EV
  U : Upds
  f : Foot

structure Does1 (P : Program) (Γ : Nat → Option CSem) (ops : Array Oper) (nt : Nat) (it : Item) (s s' : St) : Prop where
  prod : Prod P Γ ops it.o s it.e it.U
  put : putO nt it.o.dst it.e (applyU it.U s) = some s'
  live : ∀ t ∈ it.o.looksAt ops, lk t s.env ≠ some .dead
  foot : footOf ops it.o s.env it.e it.U = it.f

variable {nt : Nat}

theorem Does1.like {it : Item} {s s' t : St} (h : Does1 P Γ ops nt it s s') (hl : Like s t) : ∃ t', Does1 P Γ ops nt it t t' ∧ Like s' t' := by
  obtain ⟨t', ht'⟩ := putO_some h.put (applyU it.U t)
  refine ⟨t', ⟨Prod_local h.prod (fun n _ => hl.1 n) (fun n _ => hl.2 n) (fun n _ => hl.2 n), ht', fun n hn => by rw [hl.1]; exact h.live n hn, ?_⟩, ?_⟩
  · rw [← h.foot]
    exact footOf_cong fun n _ => hl.1 n
  · obtain ⟨h1, h2⟩ := putO_lk h.put
    obtain ⟨g1, g2⟩ := putO_lk ht'
    exact ⟨fun n => by rw [h1, g1, hl.1], fun n => by rw [h2, g2, hl.2]⟩

theorem swap {x j : Item} {s s1 s2 : St} (hx : Does1 P Γ ops nt x s s1) (hj : Does1 P Γ ops nt j s1 s2) (hap : apartF x.f j.f = true) :
    ∃ s1' s2', Does1 P Γ ops nt j s s1' ∧ Does1 P Γ ops nt x s1' s2' ∧ Like s2 s2' := by
  obtain ⟨a1, a2, a3, a4, a5, a6, a7, a8, a9, a10, a11, a12⟩ := apartF_spec hap
  have fx := hx.foot
  have fj := hj.foot
  have dx : x.f.dst = x.o.dst := by rw [← fx]; rfl
  have dj : j.f.dst = j.o.dst := by rw [← fj]; rfl
  have sx : x.f.slots = x.o.looksAt ops := by rw [← fx]; rfl
  have sj : j.f.slots = j.o.looksAt ops := by rw [← fj]; rfl
  have cx : x.f.chg = updNames x.U := by rw [← fx]; rfl
  have cj : j.f.chg = updNames j.U := by rw [← fj]; rfl
  have kx : x.f.kills = killNames x.U := by rw [← fx]; rfl
  have kj : j.f.kills = killNames j.U := by rw [← fj]; rfl
  have ox : x.f.out = x.e.names := by rw [← fx]; rfl
  have oj : j.f.out = j.e.names := by rw [← fj]; rfl
  have gx : x.f.hangO = x.e.hangN := by rw [← fx]; rfl
  have gj : j.f.hangO = j.e.hangN := by rw [← fj]; rfl
  obtain ⟨e1, p1⟩ := putO_lk hx.put
  -- what the later one looks at isn't touched by the earlier one
  have hsj : ∀ t ∈ j.o.looksAt ops, lk t s.env = lk t s1.env := by
    intro t ht
    have hne : x.o.dst ≠ some t := fun h => a1 t (by rw [dx]; exact h) (by rw [sj]; exact ht)
    have := e1 t
    rw [if_neg hne] at this
    rw [this]
    have hl := hj.live t ht
    cases hv : lk t s.env with
    | none => rfl
    | some v =>
      rw [this, hv] at hl
      rcases ((fM_kil x.o.dst).comp (fU_kil x.U)).2 v with h | h
      · simp only at h
        simp only [Option.map_some]
        rw [h]
      · simp only at h
        simp only [Option.map_some] at hl
        rw [h] at hl
        exact absurd rfl hl
  have hfj : footOf ops j.o s.env j.e j.U = j.f := by rw [← fj]; exact footOf_cong hsj
  have hpj : ∀ n, n ∉ updNames x.U → lk n s.pl = lk n s1.pl := fun n hn => by rw [p1, plU_other _ _ _ hn]
  have prodj : Prod P Γ ops j.o s j.e j.U := Prod_local hj.prod hsj (fun n hn => hpj n fun hc => a4 n (by rw [cx]; exact hc) (by rw [← fj]; exact hn)) (fun n hn => hpj n fun hc => a5 n (by rw [cx]; exact hc) (by rw [← fj]; exact hn))
  obtain ⟨s1', hput1⟩ := putO_some hj.put (applyU j.U s)
  have hDj : Does1 P Γ ops nt j s s1' := ⟨prodj, hput1, fun t ht => by rw [hsj t ht]; exact hj.live t ht, hfj⟩
  obtain ⟨e1', p1'⟩ := putO_lk hput1
  -- nor the other way
  have hsx : ∀ t ∈ x.o.looksAt ops, lk t s1'.env = lk t s.env := by
    intro t ht
    have hne : j.o.dst ≠ some t := fun h => a2 t (by rw [dj]; exact h) (by rw [sx]; exact ht)
    rw [e1', if_neg hne]
    cases hv : lk t s.env with
    | none => rfl
    | some v =>
      simp only [Option.map_some]
      have hin : v ∈ slotEVs s.env (x.o.looksAt ops) := slotEVs_mem ht hv
      rw [fU_stays j.U v fun n hn hm => a7 n (by rw [kj]; exact hn) (by rw [← fx]; simp only [footOf, List.mem_flatMap]; exact ⟨v, hin, hm⟩),
        fM_stays fun d hd hm => a10 d (by rw [dj]; exact hd) (by rw [← fx]; simp only [footOf, List.mem_flatMap]; exact ⟨v, hin, hm⟩)]
  have hpx : ∀ n, n ∉ updNames j.U → lk n s1'.pl = lk n s.pl := fun n hn => by rw [p1', plU_other _ _ _ hn]
  have prodx : Prod P Γ ops x.o s1' x.e x.U := Prod_local hx.prod hsx (fun n hn => hpx n fun hc => a6 n (by rw [cj]; exact hc) (by rw [← fx]; exact hn)) (fun n hn => hpx n fun hc => a5 n (by rw [← fx]; exact hn) (by rw [cj]; exact hc))
  obtain ⟨s2', hput2⟩ := putO_some hx.put (applyU x.U s1')
  refine ⟨s1', s2', hDj, ⟨prodx, hput2, fun t ht => by rw [hsx t ht]; exact hx.live t ht, by rw [← fx]; exact footOf_cong hsx⟩, ?_⟩
  obtain ⟨e2, p2⟩ := putO_lk hj.put
  obtain ⟨e2', p2'⟩ := putO_lk hput2
  constructor
  · intro t
    rw [e2', e2]
    by_cases hxt : x.o.dst = some t
    · have hjt : j.o.dst ≠ some t := fun h => a3 t (by rw [dx]; exact hxt) (by rw [dj]; exact h)
      rw [if_pos hxt, if_neg hjt, e1, if_pos hxt]
      simp only [Option.map_some]
      rw [fU_stays j.U x.e fun n hn hm => a8 n (by rw [kj]; exact hn) (by rw [ox]; exact hm), fM_stays fun d hd hm => a11 d (by rw [dj]; exact hd) (by rw [gx]; exact hm)]
    · rw [if_neg hxt]
      by_cases hjt : j.o.dst = some t
      · rw [if_pos hjt, e1', if_pos hjt]
        simp only [Option.map_some]
        rw [fU_stays x.U j.e fun n hn hm => a9 n (by rw [kx]; exact hn) (by rw [oj]; exact hm), fM_stays fun d hd hm => a12 d (by rw [dx]; exact hd) (by rw [gj]; exact hm)]
      · rw [if_neg hjt, e1', if_neg hjt, e1, if_neg hxt, Option.map_map, Option.map_map]
        congr 1
        funext v
        exact ((fM_kil x.o.dst).comp (fU_kil x.U)).comm ((fM_kil j.o.dst).comp (fU_kil j.U)) v
  · intro n
    rw [p2', p2, p1', p1]
    by_cases hn : n ∈ updNames x.U
    · have hnj : n ∉ updNames j.U := fun h => a5 n (by rw [cx]; exact hn) (by rw [cj]; exact h)
      rw [plU_other j.U _ _ hnj, plU_other j.U _ _ hnj]
    · rw [plU_other x.U _ _ hn, plU_other x.U _ _ hn]

end
end
end Go.Pv
