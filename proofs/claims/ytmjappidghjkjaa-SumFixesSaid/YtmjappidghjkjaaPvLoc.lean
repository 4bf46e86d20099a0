/- An operation's plain run hangs on its operands' slots and on the places they speak of, and on nothing else. -/
import Derived.Test.YtmjappidghjkjaaPvAll
namespace Go.Pv
noncomputable section

universe u v
theorem bind_cong {α : Type u} {β : Type v} {o : Option α} {f g : α → Option β} (h : ∀ a, o = some a → f a = g a) : o.bind f = o.bind g := by
  cases o with
  | none => rfl
  | some a => exact h a rfl

/-- two looks agree on what a slot speaks of -/
def Ag (L L' : Look) (e : EV) : Prop := ∀ n, e.hits n true = true → L n = L' n
def AgL (L L' : Look) (l : List EV) : Prop := ∀ n, EV.hitsL n true l = true → L n = L' n

section
variable {L L' : Look}

theorem Ag.at_ {n : Nat} {p : Path} (h : Ag L L' (.at_ n p)) : L n = L' n := h n (by simp [EV.hits])
theorem Ag.loc {n : Nat} {p : Path} (h : Ag L L' (.loc n p)) : L n = L' n := h n (by simp [EV.hits])
theorem Ag.oel {n : Nat} {p : Path} {t : Ty} {i : Int} {q : Path} (h : Ag L L' (.oel n p t i q)) : L n = L' n := h n (by simp [EV.hits])

theorem Ag.rd {e : EV} (h : Ag L L' e) : e.rd L = e.rd L' := by
  cases e <;> simp only [EV.rd]
  rw [h.at_]

theorem Ag.take {e : EV} (h : Ag L L' e) : e.take L = e.take L' := by
  cases e <;> simp only [EV.take]
  rw [h.at_]

theorem Ag.mv {e : EV} (h : Ag L L' e) : e.mv L = e.mv L' := by
  unfold EV.mv
  split
  · rw [h.at_]
  · exact h.take

theorem Ag.int? {e : EV} (h : Ag L L' e) : e.int? L = e.int? L' := by
  unfold EV.int?
  split
  · rfl
  · rw [h.rd]

theorem Ag.fix {P : Program} {t : TypeId} {e y : EV} (h : Ag L L' e) (hy : e.fix P t = some y) : Ag L L' y := by
  cases e <;> simp only [EV.fix, Option.some.injEq] at hy
  case cst v =>
    obtain ⟨d, _, rfl⟩ := Option.map_eq_some_iff.1 hy
    intro n hn
    simp [EV.hits] at hn
  all_goals subst hy; exact h

theorem listAt_ag {n : Nat} {p : Path} (h : L n = L' n) : listAt L n p = listAt L' n p := by unfold listAt; rw [h]

theorem Ag.nilTest {u : TypeDesc} {e : EV} (h : Ag L L' e) : nilTest L u e = nilTest L' u e := by
  unfold Go.Pv.nilTest
  split <;> (try split) <;> first | rfl | (rw [h.rd]; done)

theorem binOp_ag {P : Program} {op : BinOp} {t : TypeId} {x y : EV} {c : Bool} (hx : Ag L L' x) (hy : Ag L L' y) : binOp P L op t x y c = binOp P L' op t x y c := by
  have key : ((x.fix P t).bind fun x => (y.fix P t).bind fun y => (x.rd L).bind fun a => (y.rd L).bind fun b =>
      (match a, b with
      | ⟨.int k, some m⟩, ⟨.int k', some n⟩ => if k = k' then (intOp op k m n).map fun d => d.res fun d => (⟨.val d, []⟩ : Res) else none
      | ⟨.str, some m⟩, ⟨.str, some n⟩ => (strOp op m n).map fun d => d.res fun d => ⟨.val d, []⟩
      | ⟨s, some m⟩, ⟨t', some n⟩ => if h : s = t' then (if P.eqGuardType P.depth t then none else eqBy P 40 t t').bind fun f => match op with
          | .eql => some (ORes.just ⟨.val ⟨.bool, f (h ▸ m) n⟩, []⟩)
          | .neq => some (ORes.just ⟨.val ⟨.bool, !f (h ▸ m) n⟩, []⟩)
          | _ => none
        else none
      | _, _ => none)) = ((x.fix P t).bind fun x => (y.fix P t).bind fun y => (x.rd L').bind fun a => (y.rd L').bind fun b =>
      (match a, b with
      | ⟨.int k, some m⟩, ⟨.int k', some n⟩ => if k = k' then (intOp op k m n).map fun d => d.res fun d => (⟨.val d, []⟩ : Res) else none
      | ⟨.str, some m⟩, ⟨.str, some n⟩ => (strOp op m n).map fun d => d.res fun d => ⟨.val d, []⟩
      | ⟨s, some m⟩, ⟨t', some n⟩ => if h : s = t' then (if P.eqGuardType P.depth t then none else eqBy P 40 t t').bind fun f => match op with
          | .eql => some (ORes.just ⟨.val ⟨.bool, f (h ▸ m) n⟩, []⟩)
          | .neq => some (ORes.just ⟨.val ⟨.bool, !f (h ▸ m) n⟩, []⟩)
          | _ => none
        else none
      | _, _ => none)) := bind_cong fun x' hx' => bind_cong fun y' hy' => by rw [(hx.fix hx').rd, (hy.fix hy').rd]
  unfold binOp
  have hn : ∀ u, nilTest L u x = nilTest L' u x := fun u => hx.nilTest
  split
  · split
    · exact bind_cong fun u _ => by rw [hn u]
    · rfl
  · rw [hx.int?, hy.int?]
    cases op <;> first | rfl | exact key

theorem unOp_ag {P : Program} {op : UnOp} {t : TypeId} {x : EV} (hx : Ag L L' x) : unOp P L op t x = unOp P L' op t x := by
  unfold unOp
  exact bind_cong fun x' hx' => by rw [(hx.fix hx').rd]

theorem takeAll_ag : ∀ {l : List (Nat × EV)}, (∀ q ∈ l, Ag L L' q.2) → takeAll L l = takeAll L' l
  | [], _ => rfl
  | (i, x) :: r, h => by
    simp only [takeAll]
    rw [(h (i, x) (by simp)).take, takeAll_ag fun q hq => h q (by simp [hq])]

theorem mapM_mem {α β : Type} {F : α → Option β} : ∀ {l : List α} {r : List β}, l.mapM F = some r → ∀ y ∈ r, ∃ x ∈ l, F x = some y
  | [], r, h, y, hy => by
    simp only [List.mapM_nil, Option.pure_def, Option.some.injEq] at h
    subst h; cases hy
  | x :: l, r, h, y, hy => by
    rw [List.mapM_cons] at h
    cases hx : F x with
    | none => rw [hx] at h; cases h
    | some y0 =>
      cases hl : l.mapM F with
      | none => rw [hx, hl] at h; cases h
      | some r0 =>
        rw [hx, hl] at h
        obtain rfl : y0 :: r0 = r := Option.some.inj h
        rcases List.mem_cons.1 hy with rfl | hy
        · exact ⟨x, by simp, hx⟩
        · obtain ⟨x', h1, h2⟩ := mapM_mem hl y hy
          exact ⟨x', by simp [h1], h2⟩

theorem mapM_cong {α β : Type} {F G : α → Option β} : ∀ {l : List α}, (∀ x ∈ l, F x = G x) → l.mapM F = l.mapM G
  | [], _ => rfl
  | x :: l, h => by
    rw [List.mapM_cons, List.mapM_cons, h x (by simp), mapM_cong fun y hy => h y (by simp [hy])]

section
variable {E : Operand → Option EV} {P : Program}

theorem prs_ag {F : Nat × Operand → EV → Option (Nat × EV)} (hF : ∀ q x z, F q x = some z → Ag L L' x → Ag L L' z.2) {ps : List (Nat × Operand)} (hE : ∀ q ∈ ps, ∀ e, E q.2 = some e → Ag L L' e) {xs : List (Nat × EV)} (h : (ps.mapM fun q => (E q.2).bind (F q)) = some xs) :
    ∀ z ∈ xs, Ag L L' z.2 := by
  intro z hz
  obtain ⟨q, hq, hz⟩ := mapM_mem h z hz
  obtain ⟨x, hx, hz⟩ := bind_some hz
  exact hF q x z hz (hE q hq x hx)

theorem buildOp_ag {t : TypeId} {ps : List (Nat × Operand)} (hE : ∀ q ∈ ps, ∀ e, E q.2 = some e → Ag L L' e) : buildOp P L E t ps = buildOp P L' E t ps := by
  unfold buildOp
  split
  · refine bind_cong fun xs hxs => ?_
    rw [takeAll_ag (prs_ag (fun q x z hz hx => ?_) hE hxs)]
    obtain ⟨y, hy, rfl⟩ := Option.map_eq_some_iff.1 hz
    obtain ⟨f, _, hy⟩ := bind_some hy
    exact hx.fix hy
  · refine bind_cong fun xs hxs => ?_
    rw [takeAll_ag (prs_ag (fun q x z hz hx => ?_) hE hxs)]
    obtain ⟨y, hy, rfl⟩ := Option.map_eq_some_iff.1 hz
    exact hx.fix hy
  · rfl

theorem buildSliceOp_ag {dst : Nat} {t : TypeId} {n : Nat} {ps : List (Nat × Operand)} (hE : ∀ q ∈ ps, ∀ e, E q.2 = some e → Ag L L' e) : buildSliceOp P L E dst t n ps = buildSliceOp P L' E dst t n ps := by
  unfold buildSliceOp
  split
  · refine bind_cong fun xs hxs => ?_
    rw [takeAll_ag (prs_ag (fun q x z hz hx => ?_) hE hxs)]
    obtain ⟨y, hy, rfl⟩ := Option.map_eq_some_iff.1 hz
    exact hx.fix hy
  · rfl

theorem pickOp_ag {E Ea Eb : Operand → Option EV} {c a b : Operand} {ty : TypeId} (hc : ∀ e, E c = some e → Ag L L' e) (ha : ∀ e, Ea a = some e → Ag L L' e) (hb : ∀ e, Eb b = some e → Ag L L' e) : pickOp P L E Ea Eb c a b ty = pickOp P L' E Ea Eb c a b ty := by
  unfold pickOp
  refine bind_cong fun x hx => ?_
  rw [(hc x hx).rd]
  refine bind_cong fun d _ => ?_
  split
  · refine bind_cong fun y hy => bind_cong fun y' hy' => ?_
    rw [((ha y hy).fix hy').rd]
    refine bind_cong fun _ _ => bind_cong fun z hz => bind_cong fun z' hz' => ?_
    rw [((hb z hz).fix hz').rd]
  · rfl

theorem ifaceOp_ag {t : TypeId} {x : EV} (hx : Ag L L' x) : ifaceOp P L t x = ifaceOp P L' t x := by
  unfold ifaceOp
  split
  · rw [hx.loc]
  · exact bind_cong fun y hy => by rw [(hx.fix hy).take]

theorem appBase_ag {x : EV} (hx : Ag L L' x) : appBase L x = appBase L' x := by
  unfold appBase
  split
  · rw [hx.at_]
  · rfl
  · rfl
  · rfl

theorem appendOp_ag {dst : Nat} {t t2 : TypeId} {x : EV} {ys : ODyn} (hx : Ag L L' x) : appendOp P L dst t t2 x ys = appendOp P L' dst t t2 x ys := by
  unfold appendOp
  rw [appBase_ag hx]

/-! ### calls -/
theorem arg_ag {x : EV} (hx : Ag L L' x) : x.arg L = x.arg L' := by
  unfold EV.arg
  split
  · rw [listAt_ag hx.loc]
  · rfl
  · rfl
  · rw [hx.take]

theorem argAll_ag {fix : Nat → EV → Option EV} (hf : ∀ i x y, fix i x = some y → Ag L L' x → Ag L L' y) : ∀ (l : List EV) (i : Nat), (∀ x ∈ l, Ag L L' x) → argAll L fix i l = argAll L' fix i l
  | [], _, _ => rfl
  | x :: r, i, h => by
    simp only [argAll]
    refine bind_cong fun y hy => ?_
    rw [arg_ag (hf i x y hy (h x (by simp))), argAll_ag hf r (i + 1) fun z hz => h z (by simp [hz])]

theorem arg_os {x : EV} {z : Option AV × List (Nat × Path) × Upds} (h : x.arg L = some z) : ∀ o ∈ z.2.1, x.hits o.1 true = true := by
  unfold EV.arg at h
  split at h
  · obtain ⟨y, _, h⟩ := bind_some h
    split at h
    · obtain rfl := Option.some.inj h
      intro o ho
      obtain rfl : o = _ := by simpa using ho
      simp [EV.hits]
    · cases h
  · obtain rfl := Option.some.inj h; intro o ho; cases ho
  · obtain rfl := Option.some.inj h; intro o ho; cases ho
  · obtain ⟨y, _, h⟩ := bind_some h
    split at h
    · obtain rfl := Option.some.inj h; intro o ho; cases ho
    · cases h

theorem argAll_os {fix : Nat → EV → Option EV} (hf : ∀ i x y, fix i x = some y → Ag L L' x → Ag L L' y) : ∀ (l : List EV) (i : Nat) (z : List AV × List (Nat × Path) × Upds), (∀ x ∈ l, Ag L L' x) → argAll L fix i l = some z → ∀ o ∈ z.2.1, L o.1 = L' o.1
  | [], _, z, _, h => by
    simp only [argAll, Option.some.injEq] at h
    subst h
    intro o ho; cases ho
  | x :: r, i, z, hl, h => by
    simp only [argAll] at h
    obtain ⟨y, hy, h⟩ := bind_some h
    obtain ⟨q, hq, h⟩ := bind_some h
    split at h
    · split at h
      · cases h
      · obtain ⟨z', hz', rfl⟩ := Option.map_eq_some_iff.1 h
        intro o ho
        rcases List.mem_append.1 ho with ho | ho
        · exact hf i x y hy (hl x (by simp)) o.1 (arg_os hq o ho)
        · exact argAll_os hf r (i + 1) z' (fun w hw => hl w (by simp [hw])) hz' o ho
    · cases h

theorem objFit_ag : ∀ (os : List (Nat × Path)) (ts : List Ty), (∀ o ∈ os, L o.1 = L' o.1) → objFit L os ts = objFit L' os ts
  | [], [], _ => rfl
  | [], _ :: _, _ => rfl
  | _ :: _, [], _ => rfl
  | (n, p) :: r, t :: l, h => by
    simp only [objFit]
    rw [listAt_ag (h (n, p) (by simp)), objFit_ag r l fun o ho => h o (by simp [ho])]

theorem backOs_ag : ∀ (os : List (Nat × Path)) (ds : List Dyn), (∀ o ∈ os, L o.1 = L' o.1) → backOs L os ds = backOs L' os ds
  | [], [], _ => rfl
  | [], _ :: _, _ => rfl
  | _ :: _, [], _ => rfl
  | (n, p) :: r, d :: l, h => by
    have := h (n, p) (by simp)
    simp only [backOs]
    simp only at this
    rw [this, backOs_ag r l fun o ho => h o (by simp [ho])]

theorem callOp_ag {Γ : Nat → Option CSem} {dst f : Nat} {fix : Nat → EV → Option EV} (hf : ∀ i x y, fix i x = some y → Ag L L' x → Ag L L' y) {l : List EV} (h : ∀ x ∈ l, Ag L L' x) : callOp Γ L dst f fix l = callOp Γ L' dst f fix l := by
  unfold callOp
  refine bind_cong fun sem _ => ?_
  rw [← argAll_ag hf l 0 h]
  refine bind_cong fun z hz => ?_
  have hos := argAll_os hf l 0 z h hz
  refine bind_cong fun s _ => ?_
  rw [objFit_ag _ _ hos]
  split
  · congr 1
    congr 1
    funext x
    unfold callRes
    rw [backOs_ag _ _ hos]
  · rfl

theorem hitsL_mem {n : Nat} {b : Bool} : ∀ {l : List EV} {x : EV}, x ∈ l → x.hits n b = true → EV.hitsL n b l = true
  | y :: l, x, hx, h => by
    simp only [EV.hitsL, Bool.or_eq_true]
    rcases List.mem_cons.1 hx with rfl | hx
    · exact .inl h
    · exact .inr (hitsL_mem hx h)

theorem optI_ag {e : Option EV} (h : ∀ x, e = some x → Ag L L' x) : optI L e = optI L' e := by
  unfold optI
  split
  · rfl
  · rw [(h _ rfl).int?]

theorem optE_ag {E : Operand → Option EV} {o : Option Operand} {e : Option EV} (he : (match (generalizing := false) o with | none => some none | some o => (E o).map some) = some e) (h : ∀ x, o = some x → ∀ e, E x = some e → Ag L L' e) : ∀ x, e = some x → Ag L L' x := by
  intro x hx
  subst hx
  cases o with
  | none => cases he
  | some z =>
    obtain ⟨y, hy, hh⟩ := Option.map_eq_some_iff.1 he
    obtain rfl := Option.some.inj hh
    exact h z rfl _ hy

theorem evalOp_ag {Γ : Nat → Option CSem} {E : Operand → Option EV} {dst : Nat} {op : Op} {ty : TypeId} (h : ∀ x ∈ op.operands, ∀ e, E x = some e → Ag L L' e) : evalOp P Γ L E dst op ty = evalOp P Γ L' E dst op ty := by
  cases op <;> simp only [evalOp]
  case pick c a b => exact pickOp_ag (h c (by simp [Op.operands])) (h a (by simp [Op.operands])) (h b (by simp [Op.operands]))
  case box t x =>
    exact bind_cong fun e he => bind_cong fun y hy => by rw [((h x (by simp [Op.operands]) e he).fix hy).mv]
  case build t ps => exact buildOp_ag fun q hq => h q.2 (by simp only [Op.operands, List.mem_toArray, List.mem_map]; exact ⟨q, hq, rfl⟩)
  case buildSlice t n ps => exact buildSliceOp_ag fun q hq => h q.2 (by simp only [Op.operands, List.mem_toArray, List.mem_map]; exact ⟨q, hq, rfl⟩)
  case load t x =>
    refine bind_cong fun e he => ?_
    have := h x (by simp [Op.operands]) e he
    split
    · rw [listAt_ag this.loc]
    · rfl
    · rw [listAt_ag this.oel]
    · rfl
  case store t x v =>
    refine bind_cong fun e he => bind_cong fun y hy => bind_cong fun z hz => ?_
    have he := h x (by simp [Op.operands]) e he
    have hz := (h v (by simp [Op.operands]) y hy).fix hz
    split
    · rw [hz.mv]
      refine bind_cong fun r _ => ?_
      rw [he.loc]
    · rw [hz.take]
      refine bind_cong fun r _ => ?_
      rw [he.oel]
    · rfl
  case nilCheck x =>
    refine bind_cong fun e he => ?_
    have := (h x (by simp [Op.operands]) e he)
    split <;> first | rfl | (rw [this.rd]; done)
  case makeFunc f first caps => cases f <;> rfl
  case binOp op t x y _ => exact bind_cong fun e he => bind_cong fun e' he' => binOp_ag (h x (by simp [Op.operands]) e he) (h y (by simp [Op.operands]) e' he')
  case unOp op t x => exact bind_cong fun e he => unOp_ag (h x (by simp [Op.operands]) e he)
  case convert s t x =>
    refine bind_cong fun e he => bind_cong fun y hy => ?_
    rw [((h x (by simp [Op.operands]) e he).fix hy).rd]
  case slice t x lo hi mx =>
    refine bind_cong fun e he => bind_cong fun y hy => ?_
    rw [((h x (by simp [Op.operands]) e he).fix hy).take]
    refine bind_cong fun r _ => bind_cong fun lo' hlo => bind_cong fun hi' hhi => bind_cong fun mx' hmx => ?_
    rw [optI_ag (optE_ag hlo fun z hz => h z (by simp [Op.operands, hz])), optI_ag (optE_ag hhi fun z hz => h z (by simp [Op.operands, hz])), optI_ag (optE_ag hmx fun z hz => h z (by simp [Op.operands, hz]))]
  case fieldAddr s x f =>
    refine bind_cong fun e he => ?_
    have := h x (by simp [Op.operands]) e he
    split
    · refine bind_cong fun fd _ => ?_
      split
      · rw [listAt_ag this.loc]
      · rfl
      · rfl
      · rfl
    · rfl
  case field s x f =>
    refine bind_cong fun e he => ?_
    rw [(h x (by simp [Op.operands]) e he).rd]
  case indexAddr t x ix =>
    refine bind_cong fun e he => bind_cong fun i hi => ?_
    have he := h x (by simp [Op.operands]) e he
    rw [(h ix (by simp [Op.operands]) i hi).int?]
    refine bind_cong fun i _ => ?_
    split
    · split
      · rw [listAt_ag he.loc]
      · rfl
      · rfl
    · exact bind_cong fun y hy => by rw [(he.fix hy).rd]
    · rfl
  case index t x ix =>
    refine bind_cong fun e he => bind_cong fun y hy => bind_cong fun i hi => ?_
    rw [(h ix (by simp [Op.operands]) i hi).int?, ((h x (by simp [Op.operands]) e he).fix hy).rd]
  case makeInterface t x =>
    refine bind_cong fun e he => ?_
    rw [ifaceOp_ag (h x (by simp [Op.operands]) e he)]
  case typeAssert x xt at_ c =>
    exact bind_cong fun e he => bind_cong fun y hy => by rw [((h x (by simp [Op.operands]) e he).fix hy).rd]
  case call c =>
    have hargs : ∀ x ∈ c.args.toList, ∀ e, E x = some e → Ag L L' e := fun x hx => h x (by simp only [Op.operands, Call.operands, Array.mem_append]; exact .inr (by simpa using hx))
    have hfix : ∀ (i : Nat) (x y : EV), ((c.argTypes[i]?).bind fun t => x.fix P t) = some y → Ag L L' x → Ag L L' y := fun i x y hy hx => by
      obtain ⟨t, _, hy⟩ := bind_some hy
      exact hx.fix hy
    have hfix2 : ∀ (i : Nat) (x y : EV), (match c.argTypes[i]? with | some t => x.fix P t | none => some x) = some y → Ag L L' x → Ag L L' y := fun i x y hy hx => by
      split at hy
      · exact hx.fix hy
      · obtain rfl := Option.some.inj hy; exact hx
    split
    · split
      · rename_i x t ts hx ht
        exact bind_cong fun e he => bind_cong fun y hy => by rw [((hargs x (by simp [hx]) e he).fix hy).rd]
      · rfl
    · split
      · rename_i x y hx
        exact bind_cong fun e he => bind_cong fun e' he' => by rw [(hargs x (by simp [hx]) e he).int?, (hargs y (by simp [hx]) e' he').int?]
      · rfl
    · split
      · rename_i x y hx
        exact bind_cong fun e he => bind_cong fun e' he' => by rw [(hargs x (by simp [hx]) e he).int?, (hargs y (by simp [hx]) e' he').int?]
      · rfl
    · split
      · rename_i x y t t2 hx ht
        refine bind_cong fun e he => bind_cong fun e' he' => bind_cong fun z hz => bind_cong fun z' hz' => ?_
        rw [((hargs y (by simp [hx]) e' he').fix hz').rd]
        exact bind_cong fun ys _ => appendOp_ag ((hargs x (by simp [hx]) e he).fix hz)
      · rfl
    · refine bind_cong fun xs hxs => callOp_ag hfix fun x hx => ?_
      obtain ⟨y, hy, hyx⟩ := mapM_mem hxs x hx
      exact hargs y hy x hyx
    · rename_i t hcal
      refine bind_cong fun g hg => ?_
      have hgA := h (.tmp t) (by simp [Op.operands, Call.operands, hcal]) g hg
      split
      · refine bind_cong fun xs hxs => callOp_ag hfix2 fun x hx => ?_
        rcases List.mem_append.1 hx with hx | hx
        · obtain ⟨y, hy, hyx⟩ := mapM_mem hxs x hx
          exact hargs y hy x hyx
        · exact fun n hn => hgA n (by simp only [EV.hits]; exact hitsL_mem hx hn)
      · rfl
    · rfl

/-- an operation that looks at no place -/
def lookFree : Op → Bool
  | .move _ => true
  | .assign _ => true
  | .extract _ _ => true
  | .makeFunc _ _ _ => true
  | _ => false

theorem evalOp_free {Γ : Nat → Option CSem} {E : Operand → Option EV} {dst : Nat} {op : Op} {ty : TypeId} (h : lookFree op = true) : evalOp P Γ L E dst op ty = evalOp P Γ L' E dst op ty := by
  cases op
  case makeFunc f _ _ => cases f <;> rfl
  all_goals first | rfl | simp [lookFree] at h

theorem evalOp_E {Γ : Nat → Option CSem} {E E' : Operand → Option EV} {dst : Nat} {op : Op} {ty : TypeId} (h : ∀ x ∈ op.operands, E x = E' x) : evalOp P Γ L E dst op ty = evalOp P Γ L E' dst op ty := by
  cases op <;> simp only [evalOp]
  case pick c a b =>
    unfold pickOp
    rw [h c (by simp [Op.operands]), h a (by simp [Op.operands]), h b (by simp [Op.operands])]
  case build t ps =>
    have hm : ∀ (F : Nat × Operand → EV → Option (Nat × EV)), (ps.toList.mapM fun q => (E q.2).bind (F q)) = (ps.toList.mapM fun q => (E' q.2).bind (F q)) := fun F =>
      mapM_cong fun q hq => by rw [h q.2 (by simp only [Op.operands, List.mem_toArray, List.mem_map]; exact ⟨q, hq, rfl⟩)]
    unfold buildOp
    split
    · rename_i fs hu
      rw [hm fun q x => ((fs[q.1]?).bind fun f => x.fix P f.type).map fun x => (q.1, x)]
    · rename_i n e hu
      rw [hm fun q x => (x.fix P e).map fun x => (q.1, x)]
    · rfl
  case buildSlice t n ps =>
    have hm : ∀ (F : Nat × Operand → EV → Option (Nat × EV)), (ps.toList.mapM fun q => (E q.2).bind (F q)) = (ps.toList.mapM fun q => (E' q.2).bind (F q)) := fun F =>
      mapM_cong fun q hq => by rw [h q.2 (by simp only [Op.operands, List.mem_toArray, List.mem_map]; exact ⟨q, hq, rfl⟩)]
    unfold buildSliceOp
    split
    · rename_i e hu
      rw [hm fun q x => (x.fix P e).map fun x => (q.1, x)]
    · rfl
  case slice t x lo hi mx =>
    rw [h x (by simp [Op.operands])]
    have hlo : ∀ z, lo = some z → E z = E' z := fun z hz => h z (by simp [Op.operands, hz])
    have hhi : ∀ z, hi = some z → E z = E' z := fun z hz => h z (by simp [Op.operands, hz])
    have hmx : ∀ z, mx = some z → E z = E' z := fun z hz => h z (by simp [Op.operands, hz])
    clear h
    cases lo <;> cases hi <;> cases mx <;> dsimp only <;> (try rw [hlo _ rfl]) <;> (try rw [hhi _ rfl]) <;> (try rw [hmx _ rfl])
  case makeFunc f first caps =>
    cases f <;> simp only [evalOp]
    have : caps.toList.mapM E = caps.toList.mapM E' := mapM_cong fun x hx => h x (by simp only [Op.operands, Array.mem_append]; exact .inr (by simpa using hx))
    rw [this]
  case call c =>
    have hargs : ∀ x ∈ c.args.toList, E x = E' x := fun x hx => h x (by simp only [Op.operands, Call.operands, Array.mem_append]; exact .inr (by simpa using hx))
    have hm : c.args.toList.mapM E = c.args.toList.mapM E' := mapM_cong hargs
    split
    · split
      · rename_i x t ts hx ht
        rw [hargs x (by simp [hx])]
      · rfl
    · split
      · rename_i x y hx
        rw [hargs x (by simp [hx]), hargs y (by simp [hx])]
      · rfl
    · split
      · rename_i x y hx
        rw [hargs x (by simp [hx]), hargs y (by simp [hx])]
      · rfl
    · split
      · rename_i x y t t2 hx ht
        rw [hargs x (by simp [hx]), hargs y (by simp [hx])]
      · rfl
    · rw [hm]
    · rename_i t hcal
      rw [h (.tmp t) (by simp [Op.operands, Call.operands, hcal]), hm]
    · rfl
  all_goals first
    | rfl
    | (rename_i x _ _; rw [h x (by simp [Op.operands])]; done)
    | (rename_i x _; rw [h x (by simp [Op.operands])]; done)
    | (rename_i x; rw [h x (by simp [Op.operands])]; done)
    | (rename_i x y; rw [h x (by simp [Op.operands]), h y (by simp [Op.operands])]; done)
    | (rename_i x y _; rw [h x (by simp [Op.operands]), h y (by simp [Op.operands])]; done)
    | (rename_i x _ _ _; rw [h x (by simp [Op.operands])]; done)

end
end
end
end Go.Pv
