/- Calls: what a function's contract says, and a call by it. -/
import Derived.Test.YtmjappidghjkjaaPvSlice
namespace Go.Pv
noncomputable section
universe u v

abbrev Obs := List (Dyn × PG)

def Obs.ob (o : Obs) : List Nat := o.flatMap fun x => x.2.blocks

/-- what a call finds -/
structure Ent (w : World) (B : Nat → Prop) (os : Obs) : Prop where
  bsz : ∀ b, B b → b < w.heap.size
  pl : ∀ x ∈ os, PlR w B x.2 x.1
  addr : ∀ x ∈ os, ∃ q, x.2.addr = some q
  sep : ∀ x ∈ os, ∀ b ∈ x.2.blocks, ¬ B b
  nd : os.ob.Nodup

/-- arguments -/
def ARel (w : World) (B : Nat → Prop) : List AV → Obs → List Value → Prop
  | [], os, vs => os = [] ∧ vs = []
  | .val d :: l, os, vs => ∃ v r, vs = v :: r ∧ d.ty.pure = true ∧ VR w B d.ty d.val v [] ∧ ARel w B l os r
  | .obj d :: l, os, vs => ∃ v r g os', vs = v :: r ∧ os = (d, g) :: os' ∧ (∃ b o, g.addr = some (b, o) ∧ v = .pointer (some ⟨b, o, none⟩)) ∧ ARel w B l os' r
  | .ref d :: l, os, vs => ∃ v r, vs = v :: r ∧ (d.ty.pure = true ∧ ∃ b o cells, v = .pointer (some ⟨b, o, none⟩) ∧ (B b ∨ cells = []) ∧ Go.Pv.Rows w b o cells ∧ Rel w B d.ty d.val cells []) ∧ ARel w B l os r
  | .fn f caps :: l, os, vs => ∃ v r, vs = v :: r ∧ caps = [] ∧ v = .func (.func f) #[] #[] ∧ ARel w B l os r

/-- one result -/
def RRel (w : World) (B : Nat → Prop) : RV → Value → PG → Prop
  | .val d, v, g => d.ty.pure = true ∧ VR w B d.ty d.val v [] ∧ g.blocks = []
  | .own d, v, g => g.addr = none ∧ g.cells = v.cells.toList ∧ PlR w B g d ∧ Value.agg? v = d.ty.isAgg
  | .ptr d, v, g => ∃ b o, g.addr = some (b, o) ∧ v = .pointer (some ⟨b, o, none⟩) ∧ PlR w B g d

def RsRel (w : World) (B : Nat → Prop) : List RV → List (Value × PG) → Prop
  | [], rs => rs = []
  | r :: l, rs => ∃ v g t, rs = (v, g) :: t ∧ RRel w B r v g ∧ RsRel w B l t

/-- objects behind a call -/
def OsRel (w' : World) (B' : Nat → Prop) : Obs → List Dyn → List PG → Prop
  | [], ds, gs => ds = [] ∧ gs = []
  | x :: os, ds, gs => ∃ d g ds' gs', ds = d :: ds' ∧ gs = g :: gs' ∧ PlR w' B' g d ∧ g.addr = x.2.addr ∧ d.ty.size = x.1.ty.size ∧ OsRel w' B' os ds' gs'

/-- what a call leaves -/
structure Lvs (w : World) (B : Nat → Prop) (os : Obs) (rvs : List RV) (ds : List Dyn) (v : Value) (w' : World) (B' : Nat → Prop) (gs : List PG) (rs : List (Value × PG)) : Prop where
  val : v = (match rs with | [x] => x.1 | l => .tuple (l.map (·.1)).toArray)
  obs : OsRel w' B' os ds gs
  res : RsRel w' B' rvs rs
  nd : (gs.flatMap PG.blocks ++ rs.flatMap fun x => x.2.blocks).Nodup
  sep : ∀ b ∈ gs.flatMap PG.blocks ++ rs.flatMap (fun x => x.2.blocks), ¬ B' b ∧ (b < w.heap.size → b ∈ os.ob)
  size : w.heap.size ≤ w'.heap.size
  rest : w'.tape = w.tape ∧ w'.os = w.os ∧ w'.output = w.output
  keep : ∀ b, B b → Same w w' b ∧ B' b
  bsz : ∀ b, B' b → b < w'.heap.size
  bold : ∀ b, b < w.heap.size → B' b → B b ∨ b ∈ os.ob
  old : ∀ b, b < w.heap.size → b ∉ os.ob → Same w w' b
  out : ∀ x ∈ os, ∀ b o, x.2.addr = some (b, o) → ∀ i, i < o ∨ o + x.1.ty.size ≤ i → w'.cell? ⟨b, i, none⟩ = w.cell? ⟨b, i, none⟩

/-- a function does what its plain form says -/
def Contract (P : Program) (f : Nat) (sem : CSem) : Prop :=
  (∃ fn, P.funcs[f]? = some fn ∧ (fn.name == "runtime.NumGoroutine") = false ∧ fn.body.isNone = false) ∧
  ∀ avs s, sem avs = some s → ∀ r, s.run = some r → ∀ (w : World) (B : Nat → Prop) (os : Obs) (vs : List Value), Ent w B os → ARel w B avs os vs →
    Calls P f vs.toArray w fun
      | .returned v, w' => ∃ B' gs rs, Lvs w B os (resL s.res r.1) (objsL s.objs r.2) v w' B' gs rs
      | _, _ => False

section
variable {X : Cx} {st : St} {a : Act} {w : World} {B : Nat → Prop} {G : Nat → PG} {E : Operand → Option EV}

/-- arguments, in the caller's eyes -/
def AR (w : World) (B : Nat → Prop) (G : Nat → PG) (L : Look) : List AV → List (Nat × Path) → List Value → Prop
  | [], os, vs => os = [] ∧ vs = []
  | .val d :: l, os, vs => ∃ v r, vs = v :: r ∧ d.ty.pure = true ∧ VR w B d.ty d.val v [] ∧ AR w B G L l os r
  | .obj d :: l, os, vs => ∃ v r n p os', vs = v :: r ∧ os = (n, p) :: os' ∧ (∃ dn o b off, L n = some dn ∧ getP ⟨dn.ty, some dn.val⟩ p = some ⟨d.ty, some d.val⟩ ∧ offP dn.ty p = some (o, d.ty) ∧ (G n).addr = some (b, off) ∧ v = .pointer (some ⟨b, off + o, none⟩)) ∧ AR w B G L l os' r
  | .ref d :: l, os, vs => ∃ v r, vs = v :: r ∧ (d.ty.pure = true ∧ ∃ b o cells, v = .pointer (some ⟨b, o, none⟩) ∧ (B b ∨ cells = []) ∧ Go.Pv.Rows w b o cells ∧ Rel w B d.ty d.val cells []) ∧ AR w B G L l os r
  | .fn f caps :: l, os, vs => ∃ v r, vs = v :: r ∧ caps = [] ∧ v = .func (.func f) #[] #[] ∧ AR w B G L l os r

theorem fix_hits {P : Program} {t : TypeId} {e e' : EV} (h : e.fix P t = some e') (n : Nat) (b : Bool) (hh : e'.hits n b = true) : e.hits n b = true := by
  cases e with
  | cst v =>
    simp only [EV.fix] at h
    obtain ⟨d, _, rfl⟩ := Option.map_eq_some_iff.1 h
    cases hh
  | _ => obtain rfl := Option.some.inj h; exact hh

theorem arg_congr {L L' : Look} {e : EV} (h : ∀ n, e.hits n true = true → L' n = L n) : e.arg L' = e.arg L := by
  have ht : e.take L' = e.take L := take_congr fun n hn => h n (hits_soft_hard e n hn)
  cases e with
  | loc n p => simp only [EV.arg, listAt]; rw [h n (by simp [EV.hits])]
  | ref d => rfl
  | fn f l => cases l with
    | nil => rfl
    | cons x l => simp only [EV.arg]; rw [ht]
  | _ => simp only [EV.arg]; rw [ht]

theorem argAll_congr {L L' : Look} {fix : Nat → EV → Option EV} (hfix : ∀ i x y, fix i x = some y → ∀ n, y.hits n true = true → x.hits n true = true) : ∀ (l : List EV) (i : Nat), (∀ q ∈ l, ∀ n, q.hits n true = true → L' n = L n) → argAll L' fix i l = argAll L fix i l
  | [], _, _ => rfl
  | x :: r, i, h => by
    simp only [argAll]
    cases hf : fix i x with
    | none => rfl
    | some y =>
      simp only [Option.bind_some]
      rw [arg_congr (fun n hn => h x (by simp) n (hfix i x y hf n hn)), argAll_congr hfix r (i + 1) (fun q hq => h q (by simp [hq]))]

theorem AR.keep {B' : Nat → Prop} {G' : Nat → PG} {L L' : Look} (hB : ∀ b, B b → B' b) : ∀ (avs : List AV) (os : List (Nat × Path)) (vs : List Value), (∀ x ∈ os, L' x.1 = L x.1 ∧ (G' x.1).addr = (G x.1).addr) → AR w B G L avs os vs → AR w B' G' L' avs os vs
  | [], _, _, _, h => h
  | .val d :: l, os, _, ho, ⟨v, r, h1, h2, h3, h4⟩ => ⟨v, r, h1, h2, h3.same (fun _ _ => rfl) hB (by simp), AR.keep hB l os r ho h4⟩
  | .obj d :: l, _, _, ho, ⟨v, r, n, p, os', h1, h2, ⟨dn, o, b, off, k1, k2, k3, k4, k5⟩, h4⟩ => by
    subst h2
    refine ⟨v, r, n, p, os', h1, rfl, ⟨dn, o, b, off, ?_, k2, k3, ?_, k5⟩, AR.keep hB l os' r (fun x hx => ho x (by simp [hx])) h4⟩
    · rw [(ho (n, p) (by simp)).1]; exact k1
    · rw [(ho (n, p) (by simp)).2]; exact k4
  | .ref d :: l, os, _, ho, ⟨v, r, h1, ⟨h2, b, o, cells, k1, k2, k3, k4⟩, h4⟩ => ⟨v, r, h1, ⟨h2, b, o, cells, k1, k2.imp (hB b) id, k3, Rel_same (fun _ _ => rfl) hB _ _ _ _ k4 (by simp)⟩, AR.keep hB l os r ho h4⟩
  | .fn f caps :: l, os, _, ho, ⟨v, r, h1, h2, h3, h4⟩ => ⟨v, r, h1, h2, h3, AR.keep hB l os r ho h4⟩

theorem argAll_ok {P : Program} {fix : Nat → EV → Option EV} (hfix : ∀ i x y, fix i x = some y → (∃ t, x.fix P t = some y) ∨ y = x) : ∀ (l : List EV) (i : Nat) (vs : List Value) (st : St) (B : Nat → Prop) (G : Nat → PG) (avs : List AV) (os : List (Nat × Path)) (U : Upds),
    Inv X st a w B G → EVRL (tv a) w B G (look st) l vs → argAll (look st) fix i l = some (avs, os, U) → (∀ x ∈ os, x.1 ∉ updNames U) →
    ∃ B' G', Inv X (applyU U st) a w B' G' ∧ AR w B' G' (look (applyU U st)) avs os vs ∧ (∀ b, B b → B' b) ∧ (∀ n d, n ∉ updNames U → lk n st.pl = some d → lk n (applyU U st).pl = some d ∧ G' n = G n) ∧
      ∀ e' v', EVR (tv a) w B G (look st) e' v' → EVR (tv a) w B' G' (look (applyU U st)) e' v'
  | [], i, vs, st, B, G, avs, os, U, h, hl, ha, _ => by
    simp only [argAll, Option.some.injEq, Prod.mk.injEq] at ha
    obtain ⟨rfl, rfl, rfl⟩ := ha
    exact ⟨B, G, h, ⟨rfl, hl⟩, fun _ h => h, fun _ _ _ h => ⟨h, rfl⟩, fun _ _ h => h⟩
  | x :: r, i, vs, st, B, G, avs, os, U, h, hl, ha, hos => by
    simp only [EVRL] at hl
    obtain ⟨v, rv, rfl, hx, hl⟩ := hl
    simp only [argAll] at ha
    obtain ⟨y, hy, ha⟩ := bind_some ha
    have hyv : EVR (tv a) w B G (look st) y v := by
      rcases hfix i x y hy with ⟨t, ht⟩ | rfl
      · exact fix_ok hx ht
      · exact hx
    obtain ⟨z, hz, ha⟩ := bind_some ha
    split at ha
    · rename_i a1 os1 U1
      split at ha
      · cases ha
      rename_i hno
      obtain ⟨⟨avs2, os2, U2⟩, hr, hzz⟩ := Option.map_eq_some_iff.1 ha
      simp only [Prod.mk.injEq] at hzz
      obtain ⟨rfl, rfl, rfl⟩ := hzz
      have hcong : argAll (look (applyU U1 st)) fix (i + 1) r = argAll (look st) fix (i + 1) r := by
        refine argAll_congr ?_ r (i + 1) fun q hq n hn => ?_
        · intro j p q hpq n hn
          rcases hfix j p q hpq with ⟨t, ht⟩ | rfl
          · exact fix_hits ht n true hn
          · exact hn
        · refine applyU_pl_other U1 st n fun hm => hno ?_
          obtain ⟨u, hu, rfl⟩ := List.mem_map.1 hm
          rw [List.any_eq_true]
          exact ⟨u, hu, List.any_eq_true.2 ⟨q, hq, hn⟩⟩
      have hos2 : ∀ x ∈ os2, x.1 ∉ updNames U2 := fun x hx hm => hos x (by simp [hx]) (by simp only [updNames, List.map_append, List.mem_append]; exact .inr hm)
      -- what one argument leaves, and then the others
      have step : ∀ B1 G1, Inv X (applyU U1 st) a w B1 G1 → (∀ b, B b → B1 b) → (∀ n d, n ∉ updNames U1 → lk n st.pl = some d → lk n (applyU U1 st).pl = some d ∧ G1 n = G n) →
          (∀ e' v', EVR (tv a) w B G (look st) e' v' → EVR (tv a) w B1 G1 (look (applyU U1 st)) e' v') →
          (∀ B' G', (∀ b, B1 b → B' b) → (∀ x ∈ os1, look (applyU (U1 ++ U2) st) x.1 = look st x.1 ∧ (G' x.1).addr = (G x.1).addr) → AR w B' G' (look (applyU (U1 ++ U2) st)) avs2 os2 rv → AR w B' G' (look (applyU (U1 ++ U2) st)) (a1 :: avs2) (os1 ++ os2) (v :: rv)) →
          (∀ x ∈ os1, ∃ d, lk x.1 st.pl = some d) →
          ∃ B' G', Inv X (applyU (U1 ++ U2) st) a w B' G' ∧ AR w B' G' (look (applyU (U1 ++ U2) st)) (a1 :: avs2) (os1 ++ os2) (v :: rv) ∧ (∀ b, B b → B' b) ∧ (∀ n d, n ∉ updNames (U1 ++ U2) → lk n st.pl = some d → lk n (applyU (U1 ++ U2) st).pl = some d ∧ G' n = G n) ∧
            ∀ e' v', EVR (tv a) w B G (look st) e' v' → EVR (tv a) w B' G' (look (applyU (U1 ++ U2) st)) e' v' := by
        intro B1 G1 hI1 hB1 hk1 hE1 hAR hex
        have hl1 : EVRL (tv a) w B1 G1 (look (applyU U1 st)) r rv := by
          have key : ∀ (l : List EV) (vs : List Value), EVRL (tv a) w B G (look st) l vs → EVRL (tv a) w B1 G1 (look (applyU U1 st)) l vs := by
            intro l
            induction l with
            | nil => intro vs h; simpa only [EVRL] using h
            | cons e l ih =>
              intro vs h
              simp only [EVRL] at h ⊢
              obtain ⟨v, r, h1, h2, h3⟩ := h
              exact ⟨v, r, h1, hE1 e v h2, ih r h3⟩
          exact key r rv hl
        obtain ⟨B2, G2, hI2, hA2, hB2, hk2, hE2⟩ := argAll_ok hfix r (i + 1) rv (applyU U1 st) B1 G1 avs2 os2 U2 hI1 hl1 (by rw [hcong]; exact hr) hos2
        have hkeep : ∀ n d, n ∉ updNames (U1 ++ U2) → lk n st.pl = some d → lk n (applyU (U1 ++ U2) st).pl = some d ∧ G2 n = G n := by
          intro n d hn hd
          simp only [updNames, List.map_append, List.mem_append, not_or] at hn
          obtain ⟨h1, h2⟩ := hk1 n d hn.1 hd
          obtain ⟨h3, h4⟩ := hk2 n d hn.2 h1
          rw [applyU_append]
          exact ⟨h3, h4.trans h2⟩
        refine ⟨B2, G2, by rw [applyU_append]; exact hI2, ?_, fun b hb => hB2 b (hB1 b hb), hkeep, fun e' v' h' => by rw [applyU_append]; exact hE2 e' v' (hE1 e' v' h')⟩
        refine hAR B2 G2 hB2 (fun x hx => ?_) (by rw [applyU_append]; exact hA2)
        obtain ⟨d, hd⟩ := hex x hx
        obtain ⟨h1, h2⟩ := hkeep x.1 d (hos x (by simp [hx])) hd
        exact ⟨h1.trans hd.symm, by rw [h2]⟩
      have viaTake : ∀ (t : Ty) (x : T t), y.take (look st) = some (⟨t, some x⟩, U1) → a1 = .val ⟨t, x⟩ → os1 = [] → 
          ∃ B' G', Inv X (applyU (U1 ++ U2) st) a w B' G' ∧ AR w B' G' (look (applyU (U1 ++ U2) st)) (a1 :: avs2) (os1 ++ os2) (v :: rv) ∧ (∀ b, B b → B' b) ∧ (∀ n d, n ∉ updNames (U1 ++ U2) → lk n st.pl = some d → lk n (applyU (U1 ++ U2) st).pl = some d ∧ G' n = G n) ∧
            ∀ e' v', EVR (tv a) w B G (look st) e' v' → EVR (tv a) w B' G' (look (applyU (U1 ++ U2) st)) e' v' := by
        intro t x ht ha1 ho1
        subst ha1; subst ho1
        obtain ⟨B1, G1, hI1, hp, hv, hB1, hk1, hE1⟩ := take_ok h hyv ht rfl
        refine step B1 G1 hI1 hB1 hk1 hE1 (fun B' G' hB' _ hA => ⟨v, rv, rfl, hp, hv.same (fun _ _ => rfl) hB' (by simp), hA⟩) (by simp)
      have other : ((y.take (look st)).bind fun r => match r.1.val with
          | some v => some (some (AV.val ⟨r.1.ty, v⟩), [], r.2)
          | none => none) = some (some a1, os1, U1) → ∃ B' G', Inv X (applyU (U1 ++ U2) st) a w B' G' ∧ AR w B' G' (look (applyU (U1 ++ U2) st)) (a1 :: avs2) (os1 ++ os2) (v :: rv) ∧ (∀ b, B b → B' b) ∧ (∀ n d, n ∉ updNames (U1 ++ U2) → lk n st.pl = some d → lk n (applyU (U1 ++ U2) st).pl = some d ∧ G' n = G n) ∧
            ∀ e' v', EVR (tv a) w B G (look st) e' v' → EVR (tv a) w B' G' (look (applyU (U1 ++ U2) st)) e' v' := by
        intro hz
        obtain ⟨⟨⟨t, ov⟩, U'⟩, ht, hz⟩ := bind_some hz
        cases ov with
        | none => cases hz
        | some x =>
          simp only [Option.some.injEq, Prod.mk.injEq] at hz
          obtain ⟨h1, h2, h3⟩ := hz
          subst h3
          exact viaTake t x ht h1.symm h2.symm
      cases y with
      | loc n p =>
        simp only [EV.arg] at hz
        obtain ⟨q, hq, hz⟩ := bind_some hz
        split at hz
        · rename_i qv hqv
          simp only [Option.some.injEq, Prod.mk.injEq] at hz
          obtain ⟨rfl, rfl, rfl⟩ := hz
          obtain ⟨dn, hdn, hq⟩ := bind_some hq
          have hdn : lk n st.pl = some dn := hdn
          refine step B G h (fun _ h => h) (fun _ _ _ h => ⟨h, rfl⟩) (fun _ _ h => h) (fun B' G' hB' hos' hA => ?_) (by intro x hx; rw [List.mem_singleton] at hx; subst hx; exact ⟨dn, hdn⟩)
          obtain ⟨hl1, hg1⟩ := hos' (n, p) (by simp)
          simp only [EVR] at hyv
          obtain ⟨d1, o, u, b, off, hd1, ho, hg, hv⟩ := hyv
          have hd1 : lk n st.pl = some d1 := hd1
          rw [hdn] at hd1
          obtain rfl := Option.some.inj hd1
          obtain ⟨oo, hoo⟩ := getP_off p _ _ hq
          rw [ho] at hoo
          simp only [Option.some.injEq, Prod.mk.injEq] at hoo
          obtain ⟨rfl, rfl⟩ := hoo
          refine ⟨v, rv, n, p, os2, rfl, rfl, ⟨dn, o, b, off, hl1.trans hdn, ?_, ho, hg1.trans hg, hv⟩, hA⟩
          rw [hq, ← hqv]
        · cases hz
      | ref d =>
        simp only [EV.arg, Option.some.injEq, Prod.mk.injEq] at hz
        obtain ⟨rfl, rfl, rfl⟩ := hz
        simp only [EVR] at hyv
        refine step B G h (fun _ h => h) (fun _ _ _ h => ⟨h, rfl⟩) (fun _ _ h => h) (fun B' G' hB' hos' hA => ?_) (by simp)
        obtain ⟨h2, b, o, cells, k1, k2, k3, k4⟩ := hyv
        exact ⟨v, rv, rfl, ⟨h2, b, o, cells, k1, k2.imp (hB' b) id, k3, Rel_same (fun _ _ => rfl) hB' _ _ _ _ k4 (by simp)⟩, hA⟩
      | fn f caps =>
        cases caps with
        | nil =>
          simp only [EV.arg, Option.some.injEq, Prod.mk.injEq] at hz
          obtain ⟨rfl, rfl, rfl⟩ := hz
          simp only [EVR, EVRL] at hyv
          obtain ⟨vs', hv, hvs⟩ := hyv
          refine step B G h (fun _ h => h) (fun _ _ _ h => ⟨h, rfl⟩) (fun _ _ h => h) (fun B' G' hB' hos' hA => ⟨v, rv, rfl, rfl, ?_, hA⟩) (by simp)
          rw [hv]
          have : vs' = #[] := by simpa using hvs
          rw [this]
        | cons c caps => exact other hz
      | _ => exact other hz
    · cases ha

end
end
end Go.Pv
