/- All orders of a region end alike: the run in the order of the text stands for all. -/
import Derived.Test.YtmjappidghjkjaaPvDraw2
namespace Go.Pv
noncomputable section

/-! ### what comes before what, in every order -/
inductive Anc (ops : Array Oper) : Nat → Nat → Prop
  | here {i j : Nat} {o : Oper} {e : Edge} : ops[j]? = some o → e ∈ o.after → Region.binds .any e = true → e.on = i → Anc ops i j
  | on {i j : Nat} {o : Oper} {e : Edge} : ops[j]? = some o → e ∈ o.after → Region.binds .any e = true → Anc ops i e.on → Anc ops i j

def ancOf (fs : List (Nat × Nat × Foot)) (i : Nat) : Nat := match lk i fs with
  | some q => q.1
  | none => 0

def ancL (fs : List (Nat × Nat × Foot)) : List Edge → Nat
  | [] => 0
  | e :: r => bif Region.binds .any e then Nat.lor (Nat.lor (2 ^ e.on) (ancOf fs e.on)) (ancL fs r) else ancL fs r

def depsOk (i : Nat) (l : List Edge) : Bool := l.all fun e => !(Region.binds .any e) || Nat.blt e.on i

def liveAll (env : Env) (l : List Nat) : Bool := (slotEVs env l).all EV.live

/-- an operation may stand where it stands: those before it either come before it in every order, or know nothing of it -/
def fits (fs : List (Nat × Nat × Foot)) (a : Nat) (f : Foot) : Bool := fs.all fun q => Nat.testBit a q.1 || apartF q.2.2 f

def evalDraw {α : Type} (P : Program) (Γ : Nat → Option CSem) (nt : Nat) (ops : Array Oper) (k : St → Option α) : List (Nat × Nat × Foot) → Nat → List Oper → St → Option α
  | _, _, [], s => k s
  | fs, i, o :: r, s => one P Γ ops o s fun e u =>
      bif depsOk i o.after.toList && (liveAll s.env (o.looksAt ops) && fits fs (ancL fs o.after.toList) (footOf ops o s.env e u)) then
        (putO nt o.dst e (applyU u s)).bind fun s' => evalDraw P Γ nt ops k ((i, ancL fs o.after.toList, footOf ops o s.env e u) :: fs) (i + 1) r s'
      else none

section
variable {P : Program} {Γ : Nat → Option CSem} {ops : Array Oper} {nt : Nat}

def Run (P : Program) (Γ : Nat → Option CSem) (ops : Array Oper) (nt : Nat) : List Item → St → St → Prop
  | [], s, sf => Like s sf
  | it :: l, s, sf => ∃ s', Does1 P Γ ops nt it s s' ∧ Run P Γ ops nt l s' sf

theorem Run.like : ∀ {l : List Item} {s t sf : St}, Run P Γ ops nt l s sf → Like s t → Run P Γ ops nt l t sf
  | [], s, t, sf, h, hl => ⟨fun n => by rw [h.1, hl.1], fun n => by rw [h.2, hl.2]⟩
  | it :: l, s, t, sf, ⟨s', h1, h2⟩, hl => by
    obtain ⟨t', g1, g2⟩ := h1.like hl
    exact ⟨t', g1, h2.like g2⟩

theorem Run.pull : ∀ {l1 : List Item} {j : Item} {l2 : List Item} {s sf : St}, Run P Γ ops nt (l1 ++ j :: l2) s sf → (∀ x ∈ l1, apartF x.f j.f = true) → Run P Γ ops nt (j :: (l1 ++ l2)) s sf
  | [], j, l2, s, sf, h, _ => h
  | x :: l1, j, l2, s, sf, ⟨s1, h1, h2⟩, hap => by
    obtain ⟨s2, g1, g2⟩ := Run.pull h2 fun y hy => hap y (by simp [hy])
    obtain ⟨s1', s2', d1, d2, hl⟩ := swap h1 g1 (hap x (by simp))
    exact ⟨s1', d1, s2', d2, g2.like hl⟩

/-- a frame doesn't mind which of two like states it stands for -/
theorem Inv.like {X : Cx} {s t : St} {a : Act} {w : World} {B : Nat → Prop} {G : Nat → PG} (h : Inv X s a w B G) (hl : Like s t) : Inv X t a w B G := by
  have hL : look t = look s := funext fun n => hl.2 n
  refine ⟨h.defers, h.nt, h.bsz, h.b0, h.bold, ?_, ?_, ?_, ?_, h.size, h.old, h.rest, ?_, h.oaLt, ?_, h.objR⟩
  · intro n e he; rw [hL]; exact h.env n e (by rw [← hl.1]; exact he)
  · intro n d hd; exact h.pl n d (by rw [← hl.2]; exact hd)
  · intro n d hd; exact h.sep n d (by rw [← hl.2]; exact hd)
  · intro n m d d' hd hd'; exact h.apart n m d d' (by rw [← hl.2]; exact hd) (by rw [← hl.2]; exact hd')
  · intro k d hd; exact h.obj k d (by rw [← hl.2]; exact hd)
  · intro k b o s' ho
    obtain ⟨d, hd⟩ := h.objL k b o s' ho
    exact ⟨d, by rw [hl.2]; exact hd⟩

/-- what is left to do, and what is done -/
structure Left (ops : Array Oper) (l : List Item) (listed : Array Bool) : Prop where
  size : listed.size = ops.size
  un : ∀ j, listed.getD j true = false ↔ ∃ it ∈ l, it.idx = j
  op : ∀ it ∈ l, ops[it.idx]? = some it.o
  sorted : l.Pairwise fun x y => x.idx < y.idx
  deps : ∀ it ∈ l, ∀ e ∈ it.o.after, Region.binds .any e = true → e.on < it.idx
  pairs : l.Pairwise fun x y => Anc ops x.idx y.idx ∨ apartF x.f y.f = true
  down : ∀ j o, ops[j]? = some o → listed.getD j true = true → ∀ e ∈ o.after, Region.binds .any e = true → listed.getD e.on false = true

theorem getD_tf {listed : Array Bool} {j : Nat} (h : j < listed.size) : listed.getD j true = listed.getD j false := by
  simp [Array.getD_eq_getD_getElem?, h]

theorem getD_false_lt {listed : Array Bool} {j : Nat} (h : listed.getD j true = false) : j < listed.size := by
  rcases Nat.lt_or_ge j listed.size with h' | h'
  · exact h'
  · simp [Array.getD_eq_getD_getElem?, Array.getElem?_eq_none h'] at h

theorem getD_true_lt {listed : Array Bool} {j : Nat} (h : listed.getD j false = true) : j < listed.size := by
  rcases Nat.lt_or_ge j listed.size with h' | h'
  · exact h'
  · simp [Array.getD_eq_getD_getElem?, Array.getElem?_eq_none h'] at h

theorem Left.anc {l : List Item} {listed : Array Bool} (h : Left ops l listed) {i j : Nat} (ha : Anc ops i j) : (∀ o, ops[j]? = some o → ∀ e ∈ o.after, Region.binds .any e = true → listed.getD e.on false = true) → listed.getD i false = true := by
  induction ha with
  | here ho he hb heq => intro hj; rw [← heq]; exact hj _ ho _ he hb
  | on ho he hb _ ih =>
    intro hj
    have hon := hj _ ho _ he hb
    exact ih fun o' ho' => h.down _ o' ho' (by rw [getD_tf (getD_true_lt hon)]; exact hon)

theorem Left.first {it : Item} {l : List Item} {listed : Array Bool} (h : Left ops (it :: l) listed) : it.idx ∈ Region.ready .any ops listed := by
  rw [mem_ready]
  refine ⟨(h.un it.idx).2 ⟨it, by simp, rfl⟩, it.o, h.op it (by simp), fun e he hb => ?_⟩
  have hlt := h.deps it (by simp) e he hb
  cases hl : listed.getD e.on true with
  | false =>
    obtain ⟨it', hm, hi⟩ := (h.un e.on).1 hl
    rcases List.mem_cons.1 hm with rfl | hm
    · omega
    · have := (List.pairwise_cons.1 h.sorted).1 it' hm
      omega
  | true =>
    have hs := getD_false_lt ((h.un it.idx).2 ⟨it, by simp, rfl⟩)
    rw [← getD_tf (by omega)]; exact hl

theorem Left.take {l1 l2 : List Item} {j : Item} {listed : Array Bool} (h : Left ops (l1 ++ j :: l2) listed) (hr : j.idx ∈ Region.ready .any ops listed) : Left ops (l1 ++ l2) (listed.setIfInBounds j.idx true) := by
  have hsub : (l1 ++ l2).Sublist (l1 ++ j :: l2) := List.Sublist.append (List.Sublist.refl _) (List.sublist_cons_self _ _)
  have hne : ∀ x ∈ l1 ++ l2, x.idx ≠ j.idx := by
    intro x hx
    have hp := List.pairwise_append.1 h.sorted
    rcases List.mem_append.1 hx with hx | hx
    · have := hp.2.2 x hx j (by simp); omega
    · have := (List.pairwise_cons.1 hp.2.1).1 x hx; omega
  refine ⟨by rw [Array.size_setIfInBounds]; exact h.size, fun k => ?_, fun it hi => h.op it (hsub.subset hi), h.sorted.sublist hsub, fun it hi => h.deps it (hsub.subset hi), h.pairs.sublist hsub, ?_⟩
  · constructor
    · intro hk
      by_cases hkj : j.idx = k
      · subst hkj
        have hlt := getD_false_lt hk
        rw [Array.size_setIfInBounds] at hlt
        simp [hlt] at hk
      · rw [getD_set_ne true hkj] at hk
        obtain ⟨it, hm, hi⟩ := (h.un k).1 hk
        rcases List.mem_append.1 hm with hm | hm
        · exact ⟨it, by simp [hm], hi⟩
        · rcases List.mem_cons.1 hm with rfl | hm
          · exact absurd hi hkj
          · exact ⟨it, by simp [hm], hi⟩
    · rintro ⟨it, hm, hi⟩
      have := hne it hm
      rw [getD_set_ne true (by omega)]
      exact (h.un k).2 ⟨it, hsub.subset hm, hi⟩
  · intro k o ho hk e he hb
    by_cases hkj : j.idx = k
    · subst hkj
      obtain ⟨_, o', ho', hall⟩ := mem_ready.1 hr
      rw [ho] at ho'
      obtain rfl := Option.some.inj ho'
      exact getD_set_true (hall e he hb)
    · rw [getD_set_ne true hkj] at hk
      exact getD_set_true (h.down k o ho hk e he hb)

theorem any_ok {X : Cx} (hΓ : ∀ f sem, Γ f = some sem → Contract X.P f sem) {Q : Exit → Act → World → Prop} {sf : St} (hQ : ∀ a w B G, Inv X sf a w B G → Q .normal a w) : ∀ (fuel : Nat) (l : List Item) (listed : Array Bool) (s : St) (a : Act) (w : World) (B : Nat → Prop) (G : Nat → PG),
    Left ops l listed → Inv X s a w B G → Run X.P Γ ops X.nt l s sf → l.length ≤ fuel → wpAny X.P .any ops Q fuel listed a w
  | fuel, [], listed, s, a, w, B, G, hL, hI, hR, _ => by
    refine wpAny_done ?_ (hQ a w B G (hI.like hR)) fuel
    cases hr : Region.ready .any ops listed with
    | nil => rfl
    | cons j r =>
      have hj : j ∈ Region.ready .any ops listed := by rw [hr]; simp
      obtain ⟨it, hm, _⟩ := (hL.un j).1 (mem_ready.1 hj).1
      cases hm
  | 0, _ :: _, _, _, _, _, _, _, _, _, _, hf => by simp at hf
  | fuel + 1, it :: l, listed, s, a, w, B, G, hL, hI, hR, hf => by
    refine ⟨fun h => absurd hL.first (by rw [h]; simp), fun j hj => ?_⟩
    obtain ⟨h0, o, ho, hall⟩ := mem_ready.1 hj
    obtain ⟨jt, hm, rfl⟩ := (hL.un j).1 h0
    obtain ⟨l1, l2, hll⟩ := List.append_of_mem hm
    have hop := hL.op jt hm
    rw [hop] at ho
    obtain rfl := Option.some.inj ho
    rw [hll] at hL hR
    have hap : ∀ x ∈ l1, apartF x.f jt.f = true := by
      intro x hx
      rcases (List.pairwise_append.1 hL.pairs).2.2 x hx jt (by simp) with h | h
      · have hx1 := hL.anc h fun o' ho' => by
          rw [hop] at ho'
          obtain rfl := Option.some.inj ho'
          exact hall
        have hx0 := (hL.un x.idx).2 ⟨x, by simp [hx], rfl⟩
        rw [getD_tf (getD_true_lt hx1), hx1] at hx0
        cases hx0
      · exact h
    obtain ⟨s1, hD, hR'⟩ := hR.pull hap
    unfold wpOp
    rw [hop]
    refine prod_wp hI hΓ hD.prod hD.put fun a' w' B' G' hI' => ?_
    refine any_ok hΓ hQ fuel (l1 ++ l2) _ s1 a' w' B' G' (hL.take hj) hI' hR' ?_
    have := congrArg List.length hll
    simp at this hf ⊢
    omega

/-! ### the run in the order of the text -/
theorem lk_in {β : Type} {m : Nat} {q : β} : ∀ {l : List (Nat × β)}, lk m l = some q → (m, q) ∈ l
  | (k, x) :: l, h => by
    simp only [lk] at h
    cases e : Nat.beq m k with
    | true =>
      rw [e] at h
      obtain rfl := Option.some.inj h
      rw [Nat.eq_of_beq_eq_true e]; simp
    | false =>
      rw [e] at h
      exact List.mem_cons_of_mem _ (lk_in h)

theorem ancL_anc {fs : List (Nat × Nat × Foot)} (hfs : ∀ q ∈ fs, ∀ i, Nat.testBit q.2.1 i = true → Anc ops i q.1) {j : Nat} {o : Oper} (ho : ops[j]? = some o) : ∀ (l : List Edge), (∀ e ∈ l, e ∈ o.after) → ∀ i, Nat.testBit (ancL fs l) i = true → Anc ops i j
  | [], _, i, h => by simp [ancL] at h
  | e :: r, hl, i, h => by
    simp only [ancL] at h
    have ih := ancL_anc hfs ho r fun e' he' => hl e' (by simp [he'])
    cases hb : Region.binds .any e with
    | false => rw [hb] at h; exact ih i h
    | true =>
      rw [hb] at h
      simp only [cond_true] at h
      have h : Nat.testBit (2 ^ e.on ||| ancOf fs e.on ||| ancL fs r) i = true := h
      rw [Nat.testBit_or, Nat.testBit_or, Bool.or_eq_true, Bool.or_eq_true] at h
      rcases h with (h | h) | h
      · rw [Nat.testBit_two_pow] at h
        exact .here ho (hl e (by simp)) hb (of_decide_eq_true h)
      · unfold ancOf at h
        cases hq : lk e.on fs with
        | none => rw [hq] at h; simp at h
        | some q =>
          rw [hq] at h
          have hmem : (e.on, q) ∈ fs := lk_in hq
          exact .on ho (hl e (by simp)) hb (hfs _ hmem i h)
      · exact ih i h

theorem liveAll_spec : ∀ {l : List Nat} {env : Env}, liveAll env l = true → ∀ t ∈ l, lk t env ≠ some .dead := by
  intro l env h t ht hd
  have := List.all_eq_true.1 h _ (slotEVs_mem ht hd)
  cases this

theorem draw_collect {α : Type} {k : St → Option α} {r : α} : ∀ (l : List Oper) (fs : List (Nat × Nat × Foot)) (i : Nat) (s : St), (∀ n, l[n]? = ops[i + n]?) → (∀ q ∈ fs, ∀ a, Nat.testBit q.2.1 a = true → Anc ops a q.1) → evalDraw P Γ nt ops k fs i l s = some r →
    ∃ (its : List Item) (sf : St), Run P Γ ops nt its s sf ∧ k sf = some r ∧ its.length = l.length ∧ (∀ (n : Nat) it, its[n]? = some it → it.idx = i + n ∧ ops[it.idx]? = some it.o) ∧ (∀ it ∈ its, ∀ e ∈ it.o.after, Region.binds .any e = true → e.on < it.idx) ∧
      its.Pairwise (fun x y => Anc ops x.idx y.idx ∨ apartF x.f y.f = true) ∧ ∀ q ∈ fs, ∀ it ∈ its, Anc ops q.1 it.idx ∨ apartF q.2.2 it.f = true
  | [], fs, i, s, hl, hfs, h => ⟨[], s, Like.rfl' s, h, rfl, by simp, by simp, List.Pairwise.nil, by simp⟩
  | o :: l, fs, i, s, hl, hfs, h => by
    simp only [evalDraw] at h
    obtain ⟨e, U, hp, h⟩ := one_prod h
    cases hc : (depsOk i o.after.toList && (liveAll s.env (o.looksAt ops) && fits fs (ancL fs o.after.toList) (footOf ops o s.env e U))) with
    | false => rw [hc] at h; cases h
    | true =>
      rw [hc] at h
      simp only [cond_true] at h
      simp only [Bool.and_eq_true] at hc
      obtain ⟨c1, c2, c3⟩ := hc
      obtain ⟨s', hput, h⟩ := bind_some h
      have ho : ops[i]? = some o := by have := hl 0; simpa using this.symm
      have hanc : ∀ a, Nat.testBit (ancL fs o.after.toList) a = true → Anc ops a i := ancL_anc hfs ho o.after.toList fun e he => by simpa using he
      obtain ⟨its, sf, g1, g2, g3, g4, g5, g6, g7⟩ := draw_collect l ((i, ancL fs o.after.toList, footOf ops o s.env e U) :: fs) (i + 1) s' (fun n => by have := hl (n + 1); rw [show i + 1 + n = i + (n + 1) by omega]; simpa using this)
        (fun q hq a ha => by
          rcases List.mem_cons.1 hq with rfl | hq
          · exact hanc a ha
          · exact hfs q hq a ha) h
      refine ⟨⟨i, o, e, U, footOf ops o s.env e U⟩ :: its, sf, ⟨s', ⟨hp, hput, liveAll_spec c2, rfl⟩, g1⟩, g2, by simp [g3], ?_, ?_, ?_, ?_⟩
      · intro n it hn
        cases n with
        | zero =>
          obtain rfl := Option.some.inj hn
          exact ⟨rfl, ho⟩
        | succ n =>
          obtain ⟨h1, h2⟩ := g4 n it (by simpa using hn)
          exact ⟨by omega, h2⟩
      · intro it hit ed hed hb
        rcases List.mem_cons.1 hit with rfl | hit
        · have := List.all_eq_true.1 c1 ed (by simpa using hed)
          rw [hb] at this
          simp only [Bool.not_true, Bool.false_or] at this
          exact Nat.le_of_ble_eq_true this
        · exact g5 it hit ed hed hb
      · refine List.pairwise_cons.2 ⟨fun it hit => ?_, g6⟩
        exact g7 (i, ancL fs o.after.toList, footOf ops o s.env e U) (by simp) it hit
      · intro q hq it hit
        rcases List.mem_cons.1 hit with rfl | hit
        · have := List.all_eq_true.1 c3 q hq
          rw [Bool.or_eq_true] at this
          exact this.imp (fun h => hanc q.1 h) id
        · exact g7 q (by simp [hq]) it hit

theorem Inv.drawn {X : Cx} {st : St} {a : Act} {w : World} {B : Nat → Prop} {G : Nat → PG} (h : Inv X st a w B G) (m : Nat) : Inv X st a { w with drawn := m } B G :=
  h.move [] { w with drawn := m } B G (Nat.le_refl _) ⟨rfl, rfl, rfl⟩ (fun b hb => ⟨rfl, hb⟩) h.bsz (fun _ _ h => .inl h) (fun _ _ _ => rfl) (fun n d hd => ⟨⟨Rel_same (w := w) (w' := { w with drawn := m }) (fun _ _ => rfl) (fun _ h => h) _ _ _ _ (h.pl n d hd).1 (fun _ _ => rfl), (h.pl n d hd).2⟩, h.sep n d hd⟩) (fun n m' d d' hd hd' => h.apart n m' d d' hd hd') (fun _ _ => rfl) (by simp) (fun k d hk => h.obj k d hk) (fun _ _ _ _ _ _ _ => rfl) (by simp)

/-- a region whose order is drawn -/
theorem draw_ok {X : Cx} {α : Type} (hm : X.P.follows .mixedOrders = true) (hΓ : ∀ f sem, Γ f = some sem → Contract X.P f sem) {k : St → Option α} {r : α} {Q : Exit → Act → World → Prop} (hk : ∀ st a w B G, Inv X st a w B G → k st = some r → Q .normal a w) {id : Nat} {st : St} {a : Act} {w : World} {B : Nat → Prop} {G : Nat → PG}
    (h : Inv X st a w B G) (he : evalDraw X.P Γ X.nt ops k [] 0 ops.toList st = some r) : (Code.region id ops true).wp X.P Q a w := by
  obtain ⟨its, sf, g1, g2, g3, g4, g5, g6, _⟩ := draw_collect ops.toList [] 0 st (fun n => by simp) (by simp) he
  refine wp_region_any hm ?_
  have hlen : its.length = ops.size := by rw [g3]; simp
  refine any_ok hΓ (fun a w B G hI => hk sf a w B G hI g2) ops.size its _ st a _ B G ⟨by simp, fun j => ?_, ?_, ?_, g5, g6, ?_⟩ (h.drawn _) g1 (by omega)
  · constructor
    · intro hj
      have hlt : j < ops.size := by simpa using getD_false_lt hj
      have hlt' : j < its.length := by omega
      obtain ⟨h1, _⟩ := g4 j its[j] (List.getElem?_eq_getElem hlt')
      exact ⟨its[j], List.getElem_mem hlt', by omega⟩
    · rintro ⟨it, hm, rfl⟩
      obtain ⟨n, hn⟩ := List.getElem?_of_mem hm
      obtain ⟨h1, _⟩ := g4 n it hn
      have : n < its.length := (List.getElem?_eq_some_iff.1 hn).1
      have hlt : it.idx < ops.size := by omega
      simp [Array.getD_eq_getD_getElem?, hlt]
  · intro it hm
    obtain ⟨n, hn⟩ := List.getElem?_of_mem hm
    exact (g4 n it hn).2
  · rw [List.pairwise_iff_getElem]
    intro i j hi hj hij
    have h1 := (g4 i its[i] (List.getElem?_eq_getElem hi)).1
    have h2 := (g4 j its[j] (List.getElem?_eq_getElem hj)).1
    omega
  · intro j o ho hj
    have hlt : j < ops.size := (Array.getElem?_eq_some_iff.1 ho).1
    simp [Array.getD_eq_getD_getElem?, hlt] at hj

end
end
end Go.Pv
