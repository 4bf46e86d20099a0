/- What holds between a frame of the machine and a plain state while a function runs, and how it goes on when places change. -/
import Derived.Test.YtmjappidghjkjaaPvRel
import Derived.Calls
namespace Go.Pv
noncomputable section

structure PG where
  addr : Option (Nat × Nat)
  cells : List Value
  F : List Nat

def PG.blocks (g : PG) : List Nat := match g.addr with
  | some a => a.1 :: g.F
  | none => g.F

/-- a place: its data, its cells, and where these lie -/
def PlR (w : World) (B : Nat → Prop) (g : PG) (d : Dyn) : Prop :=
  Rel w B d.ty d.val g.cells g.F ∧ match g.addr with
    | none => True
    | some a => Rows w a.1 a.2 g.cells ∧ ∃ c, Blk w a.1 c

mutual
/-- a slot's value, as the plain state has it -/
def EVR (tv : Nat → Value) (w : World) (B : Nat → Prop) (G : Nat → PG) (L : Look) : EV → Value → Prop
  | .dead, _ => True
  | .val d, v => d.ty.pure = true ∧ VR w B d.ty d.val v []
  | .cst c, v => v = c
  | .clip e xs, v => e.pure = true ∧ SlR w B e.size (Rel w B e) xs v true
  | .at_ n p, v => ∃ d o u, L n = some d ∧ offP d.ty p = some (o, u) ∧ v.cells.toList = ((G n).cells.drop o).take u.size ∧ Value.agg? v = u.isAgg
  | .loc n p, v => ∃ d o u b off, L n = some d ∧ offP d.ty p = some (o, u) ∧ (G n).addr = some (b, off) ∧ v = .pointer (some ⟨b, off + o, none⟩)
  | .oel n p e i q, v => ∃ d o u b len cap qo qu, L n = some d ∧ offP d.ty p = some (o, u) ∧ (G n).cells[o]? = some (.slice (some ⟨b, 0, none⟩) len cap) ∧
      offP e q = some (qo, qu) ∧ v = .pointer (some ⟨b, i.toNat * e.size + qo, none⟩)
  | .ref d, v => d.ty.pure = true ∧ ∃ b o cells, v = .pointer (some ⟨b, o, none⟩) ∧ (B b ∨ cells = []) ∧ Rows w b o cells ∧ Rel w B d.ty d.val cells []
  | .tup l, v => ∃ vs, v = .tuple vs ∧ EVRL tv w B G L l vs.toList
  | .fn f l, v => ∃ vs, v = .func (.func f) #[] vs ∧ EVRL tv w B G L l vs.toList
  | .maybe t want x, v => tv t = .bool want → EVR tv w B G L x v
def EVRL (tv : Nat → Value) (w : World) (B : Nat → Prop) (G : Nat → PG) (L : Look) : List EV → List Value → Prop
  | [], vs => vs = []
  | e :: l, vs => ∃ v r, vs = v :: r ∧ EVR tv w B G L e v ∧ EVRL tv w B G L l r
end

/-- what a slot speaks of has changed at most in data -/
structure Alike (G G' : Nat → PG) (L L' : Look) (n : Nat) : Prop where
  out : ∀ d, L n = some d → ∃ d', L' n = some d' ∧ sk d'.ty = sk d.ty
  addr : (G' n).addr = (G n).addr

mutual
theorem EVR_mono {tv : Nat → Value} {w w' : World} {B B' : Nat → Prop} {G G' : Nat → PG} {L L' : Look} (hB : ∀ b, B b → Same w w' b ∧ B' b) :
    ∀ (e : EV) (v : Value), EVR tv w B G L e v → (∀ n, e.hits n true = true → Alike G G' L L' n) → (∀ n, e.hits n false = true → (G' n).cells = (G n).cells) → EVR tv w' B' G' L' e v
  | .dead, _, _, _, _ => by simp only [EVR]
  | .val d, v, h, _, _ => by
    simp only [EVR] at h ⊢
    exact ⟨h.1, h.2.same (fun b hb => (hB b hb).1) (fun b hb => (hB b hb).2) (by simp)⟩
  | .cst c, v, h, _, _ => h
  | .clip e xs, v, h, _, _ => by
    simp only [EVR] at h ⊢
    exact ⟨h.1, h.2.mono (fun b hb => (hB b hb).1) (fun b hb => (hB b hb).2) (fun x cs h => Rel_same (fun b hb => (hB b hb).1) (fun b hb => (hB b hb).2) e x cs [] h (by simp)) (fun _ _ _ _ _ => trivial)⟩
  | .at_ n p, v, h, h1, h2 => by
    simp only [EVR] at h ⊢
    obtain ⟨d, o, u, hd, ho, hv, ha⟩ := h
    obtain ⟨d', hd', hs⟩ := (h1 n (by simp [EV.hits])).out d hd
    obtain ⟨u', ho', hu⟩ := offP_alike ho hs
    exact ⟨d', o, u', hd', ho', by rw [h2 n (by simp [EV.hits]), hv, size_of_sk hu], by rw [ha, agg_of_sk hu]⟩
  | .loc n p, v, h, h1, _ => by
    simp only [EVR] at h ⊢
    obtain ⟨d, o, u, b, off, hd, ho, hv, ha⟩ := h
    have k := h1 n (by simp [EV.hits])
    obtain ⟨d', hd', hs⟩ := k.out d hd
    obtain ⟨u', ho', hu⟩ := offP_alike ho hs
    exact ⟨d', o, u', b, off, hd', ho', by rw [k.addr, hv], ha⟩
  | .oel n p e i q, v, h, h1, h2 => by
    simp only [EVR] at h ⊢
    obtain ⟨d, o, u, b, len, cap, qo, qu, hd, ho, hc, hq, hv⟩ := h
    obtain ⟨d', hd', hs⟩ := (h1 n (by simp [EV.hits])).out d hd
    obtain ⟨u', ho', hu⟩ := offP_alike ho hs
    exact ⟨d', o, u', b, len, cap, qo, qu, hd', ho', by rw [h2 n (by simp [EV.hits]), hc], hq, hv⟩
  | .ref d, v, h, _, _ => by
    simp only [EVR] at h ⊢
    obtain ⟨hp, b, o, cells, hv, hb, hr, h⟩ := h
    refine ⟨hp, b, o, cells, hv, hb.imp (fun h => (hB b h).2) id, ?_, Rel_same (fun b hb => (hB b hb).1) (fun b hb => (hB b hb).2) _ _ _ _ h (by simp)⟩
    rcases hb with hb | hb
    · exact hr.same (hB b hb).1
    · subst hb; intro i v hi; simp at hi
  | .tup l, v, h, h1, h2 => by
    simp only [EVR] at h ⊢
    obtain ⟨vs, hv, h⟩ := h
    exact ⟨vs, hv, EVRL_mono hB l _ h (fun n hn => h1 n (by simpa only [EV.hits] using hn)) (fun n hn => h2 n (by simpa only [EV.hits] using hn))⟩
  | .fn f l, v, h, h1, h2 => by
    simp only [EVR] at h ⊢
    obtain ⟨vs, hv, h⟩ := h
    exact ⟨vs, hv, EVRL_mono hB l _ h (fun n hn => h1 n (by simpa only [EV.hits] using hn)) (fun n hn => h2 n (by simpa only [EV.hits] using hn))⟩
  | .maybe t want x, v, h, h1, h2 => by
    simp only [EVR] at h ⊢
    exact fun ht => EVR_mono hB x v (h ht) (fun n hn => h1 n (by simpa only [EV.hits] using hn)) (fun n hn => h2 n (by simpa only [EV.hits] using hn))
theorem EVRL_mono {tv : Nat → Value} {w w' : World} {B B' : Nat → Prop} {G G' : Nat → PG} {L L' : Look} (hB : ∀ b, B b → Same w w' b ∧ B' b) :
    ∀ (l : List EV) (vs : List Value), EVRL tv w B G L l vs → (∀ n, EV.hitsL n true l = true → Alike G G' L L' n) → (∀ n, EV.hitsL n false l = true → (G' n).cells = (G n).cells) → EVRL tv w' B' G' L' l vs
  | [], _, h, _, _ => h
  | e :: l, vs, h, h1, h2 => by
    simp only [EVRL] at h ⊢
    obtain ⟨v, r, hv, he, hl⟩ := h
    exact ⟨v, r, hv, EVR_mono hB e v he (fun n hn => h1 n (by simp [EV.hitsL, hn])) (fun n hn => h2 n (by simp [EV.hitsL, hn])),
      EVRL_mono hB l r hl (fun n hn => h1 n (by simp [EV.hitsL, hn])) (fun n hn => h2 n (by simp [EV.hitsL, hn]))⟩
end

mutual
/-- slots that nothing hangs on may change -/
theorem EVR_tv {tv tv' : Nat → Value} {w : World} {B : Nat → Prop} {G : Nat → PG} {L : Look} {t : Nat} (ht : ∀ s, s ≠ t → tv' s = tv s) :
    ∀ (e : EV) (v : Value), e.hangs t = false → EVR tv w B G L e v → EVR tv' w B G L e v
  | .dead, _, _, h => h
  | .val d, v, _, h => h
  | .cst c, v, _, h => h
  | .clip e xs, v, _, h => h
  | .at_ n p, v, _, h => h
  | .loc n p, v, _, h => h
  | .oel n p e i q, v, _, h => h
  | .ref d, v, _, h => h
  | .tup l, v, hh, h => by
    simp only [EVR] at h ⊢
    obtain ⟨vs, hv, h⟩ := h
    exact ⟨vs, hv, EVRL_tv ht l _ (by simpa only [EV.hangs] using hh) h⟩
  | .fn f l, v, hh, h => by
    simp only [EVR] at h ⊢
    obtain ⟨vs, hv, h⟩ := h
    exact ⟨vs, hv, EVRL_tv ht l _ (by simpa only [EV.hangs] using hh) h⟩
  | .maybe t' want x, v, hh, h => by
    simp only [EVR] at h ⊢
    simp only [EV.hangs, Bool.or_eq_false_iff] at hh
    intro hw
    rw [ht t' (by intro e; subst e; simp at hh)] at hw
    exact EVR_tv ht x v hh.2 (h hw)
theorem EVRL_tv {tv tv' : Nat → Value} {w : World} {B : Nat → Prop} {G : Nat → PG} {L : Look} {t : Nat} (ht : ∀ s, s ≠ t → tv' s = tv s) :
    ∀ (l : List EV) (vs : List Value), EV.hangsL t l = false → EVRL tv w B G L l vs → EVRL tv' w B G L l vs
  | [], _, _, h => h
  | e :: l, vs, hh, h => by
    simp only [EVRL] at h ⊢
    simp only [EV.hangsL, Bool.or_eq_false_iff] at hh
    obtain ⟨v, r, hv, he, hl⟩ := h
    exact ⟨v, r, hv, EVR_tv ht e v hh.1 he, EVRL_tv ht l r hh.2 hl⟩
end

/-! ### lists by name -/
theorem beq_ne {n m : Nat} (h : n ≠ m) : Nat.beq n m = false := by
  cases hb : Nat.beq n m with
  | false => rfl
  | true => exact absurd (Nat.eq_of_beq_eq_true hb) h

theorem lk_rmv {α : Type} (n m : Nat) : ∀ l : List (Nat × α), lk m (rmv n l) = if m = n then none else lk m l
  | [] => by simp [rmv, lk]
  | (k, a) :: r => by
    have ih := lk_rmv n m r
    simp only [rmv]
    by_cases h : n = k
    · subst h
      simp only [Nat.beq_refl, cond_true, ih, lk]
      by_cases hm : m = n
      · simp [hm]
      · have : Nat.beq m n = false := beq_ne hm
        simp [hm, this]
    · have hb : Nat.beq n k = false := beq_ne h
      simp only [hb, cond_false, lk, ih]
      by_cases hk : m = k
      · subst hk
        have : m ≠ n := fun e => h e.symm
        simp [this]
      · have : Nat.beq m k = false := beq_ne hk
        simp [this]

theorem lk_put {α : Type} (n m : Nat) (a : α) (l : List (Nat × α)) : lk m (put n a l) = if m = n then some a else lk m l := by
  unfold put
  simp only [lk, lk_rmv]
  by_cases h : m = n
  · simp [h]
  · have : Nat.beq m n = false := beq_ne h
    simp [h, this]

theorem lk_map {α β : Type} (f : Nat × α → β) (m : Nat) : ∀ l : List (Nat × α), lk m (l.map fun x => (x.1, f x)) = (lk m l).map fun a => f (m, a)
  | [] => rfl
  | (k, a) :: r => by
    simp only [List.map_cons, lk]
    by_cases h : m = k
    · subst h; simp
    · have : Nat.beq m k = false := beq_ne h
      simp only [this, cond_false]
      exact lk_map f m r

/-! ### the frame -/
/-- what a call finds: the program, the slots of its frame, the world, the blocks that never change again, the blocks that were handed over, and where in them the objects lie -/
structure Cx where
  P : Program
  nt : Nat
  w0 : World
  B0 : Nat → Prop
  ob : List Nat
  oa : Nat → Option (Nat × Nat × Nat)

def tv (a : Act) (t : Nat) : Value := a.tmps.getD t undef

abbrev look (st : St) : Look := fun n => lk n st.pl

structure Inv (X : Cx) (st : St) (a : Act) (w : World) (B : Nat → Prop) (G : Nat → PG) : Prop where
  defers : a.defers = []
  nt : a.tmps.size = X.nt
  bsz : ∀ b, B b → b < w.heap.size
  b0 : ∀ b, X.B0 b → B b
  bold : ∀ b, b < X.w0.heap.size → B b → X.B0 b ∨ b ∈ X.ob
  env : ∀ t e, lk t st.env = some e → EVR (tv a) w B G (look st) e (tv a t)
  pl : ∀ n d, lk n st.pl = some d → PlR w B (G n) d
  sep : ∀ n d, lk n st.pl = some d → (G n).blocks.Nodup ∧ ∀ b ∈ (G n).blocks, ¬ B b ∧ (b < X.w0.heap.size → b ∈ X.ob)
  apart : ∀ n m d d', lk n st.pl = some d → lk m st.pl = some d' → n ≠ m → ∀ b ∈ (G n).blocks, b ∉ (G m).blocks
  size : X.w0.heap.size ≤ w.heap.size
  old : ∀ b, b < X.w0.heap.size → b ∉ X.ob → Same X.w0 w b
  rest : w.tape = X.w0.tape ∧ w.os = X.w0.os ∧ w.output = X.w0.output
  obj : ∀ k d, lk (objName k) st.pl = some d → ∃ b o s, X.oa k = some (b, o, s) ∧ (G (objName k)).addr = some (b, o) ∧ d.ty.size = s
  oaLt : ∀ k b o s, X.oa k = some (b, o, s) → b < X.w0.heap.size
  objL : ∀ k b o s, X.oa k = some (b, o, s) → ∃ d, lk (objName k) st.pl = some d
  objR : ∀ k b o s, X.oa k = some (b, o, s) → ∀ i, i < o ∨ o + s ≤ i → w.cell? ⟨b, i, none⟩ = X.w0.cell? ⟨b, i, none⟩

def Upd.hard : Upd → Bool
  | .del => true
  | .new _ => true
  | _ => false
def Upd.soft : Upd → Bool
  | .set _ => true
  | _ => false

theorem kill_lk (n : Nat) (hard : Bool) (t : Nat) (env : Env) (e : EV) (h : lk t (kill n hard env) = some e) : e = .dead ∨ (lk t env = some e ∧ e.hits n hard = false) := by
  unfold kill at h
  rw [lk_map (fun x : Nat × EV => bif x.2.hits n hard then EV.dead else x.2)] at h
  cases h0 : lk t env with
  | none => rw [h0] at h; cases h
  | some x =>
    rw [h0] at h
    simp only [Option.map_some, Option.some.injEq] at h
    cases hx : x.hits n hard with
    | true => rw [hx] at h; exact .inl h.symm
    | false => rw [hx] at h; simp only [cond_false] at h; subst h; exact .inr ⟨rfl, hx⟩

theorem killM_lk (d : Nat) (t : Nat) (env : Env) (e : EV) (h : lk t (killM d env) = some e) : e = .dead ∨ (lk t env = some e ∧ e.hangs d = false) := by
  unfold killM at h
  rw [lk_map (fun x : Nat × EV => bif x.2.hangs d then EV.dead else x.2)] at h
  cases h0 : lk t env with
  | none => rw [h0] at h; cases h
  | some x =>
    rw [h0] at h
    simp only [Option.map_some, Option.some.injEq] at h
    cases hx : x.hangs d with
    | true => rw [hx] at h; exact .inl h.symm
    | false => rw [hx] at h; simp only [cond_false] at h; subst h; exact .inr ⟨rfl, hx⟩

theorem apply1_env (u : Nat × Upd) (s : St) (t : Nat) (e : EV) (h : lk t (apply1 u s).env = some e) :
    e = .dead ∨ (lk t s.env = some e ∧ (u.2.hard = true → e.hits u.1 true = false) ∧ (u.2.soft = true → e.hits u.1 false = false)) := by
  obtain ⟨n, u⟩ := u
  cases u with
  | del => exact (kill_lk n true t s.env e h).imp id fun ⟨h1, h2⟩ => ⟨h1, fun _ => h2, fun (h : false = true) => Bool.noConfusion h⟩
  | new d => exact (kill_lk n true t s.env e h).imp id fun ⟨h1, h2⟩ => ⟨h1, fun _ => h2, fun (h : false = true) => Bool.noConfusion h⟩
  | set d => exact (kill_lk n false t s.env e h).imp id fun ⟨h1, h2⟩ => ⟨h1, fun (h : false = true) => Bool.noConfusion h, fun _ => h2⟩
  | keep d => exact .inr ⟨h, ⟨fun (h : false = true) => Bool.noConfusion h, fun (h : false = true) => Bool.noConfusion h⟩⟩

theorem applyU_env : ∀ (U : Upds) (s : St) (t : Nat) (e : EV), lk t (applyU U s).env = some e →
    e = .dead ∨ (lk t s.env = some e ∧ ∀ u ∈ U, (u.2.hard = true → e.hits u.1 true = false) ∧ (u.2.soft = true → e.hits u.1 false = false))
  | [], s, t, e, h => .inr ⟨h, fun u hu => by cases hu⟩
  | u :: r, s, t, e, h => by
    rcases applyU_env r (apply1 u s) t e h with h1 | ⟨h1, h2⟩
    · exact .inl h1
    · rcases apply1_env u s t e h1 with h3 | ⟨h3, h4⟩
      · exact .inl h3
      · refine .inr ⟨h3, fun v hv => ?_⟩
        rcases List.mem_cons.1 hv with rfl | hv
        · exact h4
        · exact h2 v hv

theorem apply1_pl (u : Nat × Upd) (s : St) (m : Nat) : lk m (apply1 u s).pl = if m = u.1 then (match u.2 with | .del => none | .new d => some d | .set d => some d | .keep d => some d) else lk m s.pl := by
  obtain ⟨n, u⟩ := u
  cases u <;> simp only [apply1, lk_rmv, lk_put]

theorem applyU_pl_other : ∀ (U : Upds) (s : St) (m : Nat), m ∉ updNames U → lk m (applyU U s).pl = lk m s.pl
  | [], _, _, _ => rfl
  | u :: r, s, m, h => by
    simp only [updNames, List.map_cons, List.mem_cons, not_or] at h
    show lk m (applyU r (apply1 u s)).pl = _
    rw [applyU_pl_other r _ m (by simpa [updNames] using h.2), apply1_pl, if_neg h.1]

mutual
theorem hits_soft_hard : ∀ (e : EV) (n : Nat), e.hits n false = true → e.hits n true = true
  | .tup l, n, h => by simp only [EV.hits] at h ⊢; exact hitsL_soft_hard l n h
  | .fn f l, n, h => by simp only [EV.hits] at h ⊢; exact hitsL_soft_hard l n h
  | .maybe t w v, n, h => by simp only [EV.hits] at h ⊢; exact hits_soft_hard v n h
  | .loc m p, n, h => by simp [EV.hits] at h
  | .at_ m p, n, h => by simpa [EV.hits] using h
  | .oel m p e i q, n, h => by simpa [EV.hits] using h
  | .dead, n, h => by simp [EV.hits] at h
  | .val d, n, h => by simp [EV.hits] at h
  | .cst c, n, h => by simp [EV.hits] at h
  | .clip e xs, n, h => by simp [EV.hits] at h
  | .ref d, n, h => by simp [EV.hits] at h
theorem hitsL_soft_hard : ∀ (l : List EV) (n : Nat), EV.hitsL n false l = true → EV.hitsL n true l = true
  | [], n, h => by simp [EV.hitsL] at h
  | x :: l, n, h => by
    simp only [EV.hitsL, Bool.or_eq_true] at h ⊢
    exact h.imp (hits_soft_hard x n) (hitsL_soft_hard l n)
end

def Upd.isDel : Upd → Bool
  | .del => true
  | _ => false

theorem applyU_alive : ∀ (U : Upds) (s : St) (m : Nat) (d : Dyn), (∀ u ∈ U, u.2.isDel = true → u.1 ≠ m) → lk m s.pl = some d → ∃ d', lk m (applyU U s).pl = some d'
  | [], _, _, d, _, h => ⟨d, h⟩
  | u :: r, s, m, d, hn, h => by
    have h1 : ∃ d', lk m (apply1 u s).pl = some d' := by
      rw [apply1_pl]
      split
      · rename_i e
        have := hn u (by simp)
        obtain ⟨n, u⟩ := u
        cases u with
        | del => exact absurd e.symm (this rfl)
        | new d => exact ⟨d, rfl⟩
        | set d => exact ⟨d, rfl⟩
        | keep d => exact ⟨d, rfl⟩
      · exact ⟨d, h⟩
    obtain ⟨d1, h1⟩ := h1
    exact applyU_alive r (apply1 u s) m d1 (fun u hu => hn u (by simp [hu])) h1

/-- the frame goes on into another world, with places changed -/
theorem Inv.move {X : Cx} {st : St} {a : Act} {w : World} {B : Nat → Prop} {G : Nat → PG} (h : Inv X st a w B G) (U : Upds) (w' : World) (B' : Nat → Prop) (G' : Nat → PG)
    (hsz : w.heap.size ≤ w'.heap.size) (hrest : w'.tape = w.tape ∧ w'.os = w.os ∧ w'.output = w.output)
    (hB : ∀ b, B b → Same w w' b ∧ B' b) (hBs : ∀ b, B' b → b < w'.heap.size) (hBo : ∀ b, b < X.w0.heap.size → B' b → B b ∨ b ∈ X.ob)
    (hold : ∀ b, b < X.w0.heap.size → b ∉ X.ob → Same w w' b)
    (hpl : ∀ n d, lk n (applyU U st).pl = some d → PlR w' B' (G' n) d ∧ (G' n).blocks.Nodup ∧ ∀ b ∈ (G' n).blocks, ¬ B' b ∧ (b < X.w0.heap.size → b ∈ X.ob))
    (hap : ∀ n m d d', lk n (applyU U st).pl = some d → lk m (applyU U st).pl = some d' → n ≠ m → ∀ b ∈ (G' n).blocks, b ∉ (G' m).blocks)
    (hG : ∀ n, n ∉ updNames U → G' n = G n)
    (hU : ∀ u ∈ U, u.2.hard = true ∨ ((G' u.1).addr = (G u.1).addr ∧ (∃ d d', lk u.1 st.pl = some d ∧ lk u.1 (applyU U st).pl = some d' ∧ sk d'.ty = sk d.ty) ∧ (u.2.soft = true ∨ (G' u.1).cells = (G u.1).cells ∨ ∃ v ∈ U, v.1 = u.1 ∧ v.2.soft = true)))
    (hobj : ∀ k d, lk (objName k) (applyU U st).pl = some d → ∃ b o s, X.oa k = some (b, o, s) ∧ (G' (objName k)).addr = some (b, o) ∧ d.ty.size = s)
    (hobjR : ∀ k b o s, X.oa k = some (b, o, s) → ∀ i, i < o ∨ o + s ≤ i → w'.cell? ⟨b, i, none⟩ = w.cell? ⟨b, i, none⟩)
    (hal : ∀ u ∈ U, u.2.isDel = true → u.1 % 2 = 0) :
    Inv X (applyU U st) a w' B' G' where
  defers := h.defers
  nt := h.nt
  bsz := hBs
  b0 := fun b hb => (hB b (h.b0 b hb)).2
  bold := fun b hb hb' => (hBo b hb hb').elim (h.bold b hb) .inr
  env := by
    intro t e he
    rcases applyU_env U st t e he with rfl | ⟨h1, h2⟩
    · simp only [EVR]
    · have key : ∀ n, n ∈ updNames U → e.hits n true = true → ∃ u ∈ U, u.1 = n ∧ u.2.hard = false := by
        intro n hn hh
        obtain ⟨u, hu, rfl⟩ := List.mem_map.1 hn
        refine ⟨u, hu, rfl, ?_⟩
        cases hx : u.2.hard with
        | false => rfl
        | true => rw [(h2 u hu).1 hx] at hh; cases hh
      refine EVR_mono hB e _ (h.env t e h1) (fun n hn => ?_) (fun n hn => ?_)
      · by_cases hm : n ∈ updNames U
        · obtain ⟨u, hu, rfl, hx⟩ := key n hm hn
          rcases hU u hu with hc | ⟨ha, ⟨d, d', hd, hd', hs⟩, _⟩
          · rw [hx] at hc; cases hc
          · exact ⟨fun d0 hd0 => ⟨d', hd', by have : d = d0 := Option.some.inj (hd.symm.trans hd0); subst this; exact hs⟩, ha⟩
        · exact ⟨fun d hd => ⟨d, by show lk n (applyU U st).pl = _; rw [applyU_pl_other U st n hm]; exact hd, rfl⟩, by rw [hG n hm]⟩
      · by_cases hm : n ∈ updNames U
        · obtain ⟨u, hu, rfl, hx⟩ := key n hm (hits_soft_hard e n hn)
          rcases hU u hu with hc | ⟨_, _, hc | hc | ⟨v, hv, hvn, hc⟩⟩
          · rw [hx] at hc; cases hc
          · rw [(h2 u hu).2 hc] at hn; cases hn
          · exact hc
          · have := (h2 v hv).2 hc
            rw [hvn] at this
            rw [this] at hn; cases hn
        · rw [hG n hm]
  pl := fun n d hd => (hpl n d hd).1
  sep := fun n d hd => (hpl n d hd).2
  apart := hap
  size := Nat.le_trans h.size hsz
  old := fun b hb hn => (hold b hb hn).trans (h.old b hb hn)
  rest := ⟨hrest.1.trans h.rest.1, hrest.2.1.trans h.rest.2.1, hrest.2.2.trans h.rest.2.2⟩
  obj := hobj
  oaLt := h.oaLt
  objL := fun k b o s ho => by
    obtain ⟨d, hd⟩ := h.objL k b o s ho
    exact applyU_alive U st _ d (fun u hu hx e => by have := hal u hu hx; rw [e] at this; unfold objName at this; omega) hd
  objR := fun k b o s ho i hi => (hobjR k b o s ho i hi).trans (h.objR k b o s ho i hi)

/-- a slot gets a value -/
theorem Inv.put {X : Cx} {st : St} {a : Act} {w : World} {B : Nat → Prop} {G : Nat → PG} (h : Inv X st a w B G) {d : Nat} {e : EV} {v : Value} (hd : d < X.nt)
    (he : EVR (tv a) w B G (look st) e v) (hh : e.hangs d = false) : Inv X ⟨putE d e st.env, st.pl⟩ (a.put (some d) v) w B G where
  defers := h.defers
  nt := by simp [Act.put, h.nt]
  bsz := h.bsz
  b0 := h.b0
  bold := h.bold
  env := by
    have htv : ∀ s, s ≠ d → tv (a.put (some d) v) s = tv a s := by
      intro s hs
      simp only [tv, Act.put, Array.getD_eq_getD_getElem?]
      rw [Array.getElem?_setIfInBounds_ne (Ne.symm hs)]
    intro t x hx
    unfold putE at hx
    rw [lk_put] at hx
    split at hx
    · rename_i ht
      subst ht
      obtain rfl := Option.some.inj hx
      have : tv (a.put (some t) v) t = v := by
        simp [tv, Act.put, h.nt, hd]
      rw [this]
      exact EVR_tv htv e v hh he
    · rename_i ht
      rcases killM_lk d t st.env x hx with rfl | ⟨h1, h2⟩
      · simp only [EVR]
      · rw [htv t ht]
        exact EVR_tv htv x _ h2 (h.env t x h1)
  pl := h.pl
  sep := h.sep
  apart := h.apart
  size := h.size
  old := h.old
  rest := h.rest
  obj := h.obj
  oaLt := h.oaLt
  objL := h.objL
  objR := h.objR

end
end Go.Pv
