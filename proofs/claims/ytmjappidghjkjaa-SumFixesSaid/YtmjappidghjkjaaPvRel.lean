/- When a value of the machine stands for plain data: in a world, over memory that never changes again (B), with blocks that are nobody else's (F). -/
import Derived.Test.YtmjappidghjkjaaPvEv
import GoSem.ClaimData
namespace Go.Pv
noncomputable section

def Value.agg? : Value → Bool
  | .agg _ => true
  | _ => false

def Value.plain? : Value → Bool
  | .agg _ | .tuple _ => false
  | _ => true

/-- cells that lie in a row -/
def Rows (w : World) (b o : Nat) (cs : List Value) : Prop := ∀ i v, cs[i]? = some v → w.cell? ⟨b, o + i, none⟩ = some v

def RelL {α : Type} (R : α → List Value → List Nat → Prop) : List α → List Value → List Nat → Prop
  | [], cs, F => cs = [] ∧ F = []
  | x :: xs, cs, F => ∃ c1 c2 F1 F2, cs = c1 ++ c2 ∧ F = F1 ++ F2 ∧ R x c1 F1 ∧ RelL R xs c2 F2

/-- a slice whose cells never change again -/
def SlR {α : Type} (w : World) (B : Nat → Prop) (sz : Nat) (R : α → List Value → List Nat → Prop) (xs : List α) (v : Value) (clip : Bool) : Prop :=
  ∃ a cap cells, v = .slice a xs.length cap ∧ xs.length ≤ cap ∧ cap ≤ maxLen ∧ (clip = true → cap = xs.length) ∧ cells.length = xs.length * sz ∧ RelL R xs cells [] ∧
    match a with
    | none => cap = 0
    | some ad => xs = [] ∨ (ad.spot = none ∧ B ad.block ∧ Rows w ad.block ad.off cells)

/-- a block of cells, all of which may be written -/
def Blk (w : World) (b : Nat) (c : Array Value) : Prop := ∃ ty fr, w.heap[b]? = some (.cells c ty fr) ∧ ∀ o, o < c.size → (decide (fr.1 ≤ o) && decide (o < fr.2)) = false

/-- a slice whose block is nobody else's -/
def OwR {α : Type} (w : World) (sz : Nat) (R : α → List Value → List Nat → Prop) (xs : List α) (v : Value) (F : List Nat) : Prop :=
  (xs = [] ∧ v = .slice none 0 0 ∧ F = []) ∨
  ∃ b cap c F', v = .slice (some ⟨b, 0, none⟩) xs.length cap ∧ xs.length ≤ cap ∧ cap ≤ maxLen ∧ Blk w b c ∧ c.size = cap * sz ∧
    RelL R xs (c.toList.take (xs.length * sz)) F' ∧ F = b :: F'

/-- data and its cells -/
def Rel (w : World) (B : Nat → Prop) : (t : Ty) → T t → List Value → List Nat → Prop
  | .int k, n, cs, F => cs = [.int k n] ∧ inR k n = true ∧ F = []
  | .bool, b, cs, F => cs = [.bool b] ∧ F = []
  | .str, s, cs, F => ∃ b, cs = [.string b] ∧ bytesOf b = s ∧ b.size ≤ maxLen ∧ F = []
  | .unit, _, cs, F => cs = [] ∧ F = []
  | .pair a b, x, cs, F => ∃ c1 c2 F1 F2, cs = c1 ++ c2 ∧ F = F1 ++ F2 ∧ Rel w B a x.1 c1 F1 ∧ Rel w B b x.2 c2 F2
  | .agg a, x, cs, F => Rel w B a x cs F
  | .arr n e, xs, cs, F => List.length (α := T e) xs = n ∧ RelL (Rel w B e) xs cs F
  | .slice e, xs, cs, F => F = [] ∧ ∃ v, cs = [v] ∧ SlR w B e.size (Rel w B e) xs v false
  | .own e, xs, cs, F => ∃ v, cs = [v] ∧ OwR w e.size (Rel w B e) xs v F
  | .app e, xs, cs, F => ∃ v, cs = [v] ∧ (OwR w e.size (Rel w B e) xs v F ∨ (F = [] ∧ SlR w B e.size (Rel w B e) xs v true))
  | .junk, _, cs, F => (∃ v, cs = [v] ∧ Value.plain? v = true) ∧ F = []
  | .ptr t, o, cs, F => F = [] ∧ match (o : Option (T t)) with
    | none => cs = [.pointer none]
    | some x => ∃ b off cells, cs = [.pointer (some ⟨b, off, none⟩)] ∧ B b ∧ Rows w b off cells ∧ Rel w B t x cells []
  | .box t, o, cs, F => match (o : Option (T t)) with
    | none => cs = [.pointer none] ∧ F = []
    | some x => ∃ b c F', cs = [.pointer (some ⟨b, 0, none⟩)] ∧ Blk w b c ∧ Rel w B t x c.toList F' ∧ F = b :: F'
  | .nils _, _, cs, F => cs = [.slice none 0 0] ∧ F = []
  | .nilp, _, cs, F => cs = [.pointer none] ∧ F = []
  | .nili, _, cs, F => cs = [.nilIface] ∧ F = []
  | .alt u t r, s, cs, F => F = [] ∧ match (s : T t ⊕ T r) with
    | .inl x => ∃ v, cs = [.iface u v] ∧ Rel w B t x v.cells.toList [] ∧ Value.agg? v = t.isAgg
    | .inr y => Rel w B r y cs [] ∧ cs.length = 1

/-- data and the value that a slot holds for it -/
def VR (w : World) (B : Nat → Prop) (t : Ty) (x : T t) (v : Value) (F : List Nat) : Prop := Rel w B t x v.cells.toList F ∧ Value.agg? v = t.isAgg

/-! ### lists -/
theorem RelL_mono {α : Type} {R R' : α → List Value → List Nat → Prop} (h : ∀ x cs F, R x cs F → R' x cs F) : ∀ xs cs F, RelL R xs cs F → RelL R' xs cs F
  | [], _, _, h0 => h0
  | _ :: xs, _, _, ⟨c1, c2, F1, F2, hc, hF, h1, h2⟩ => ⟨c1, c2, F1, F2, hc, hF, h _ _ _ h1, RelL_mono h xs c2 F2 h2⟩

theorem RelL_length {α : Type} {R : α → List Value → List Nat → Prop} {n : Nat} (h : ∀ x cs F, R x cs F → cs.length = n) : ∀ xs cs F, RelL R xs cs F → cs.length = xs.length * n
  | [], _, _, ⟨h0, _⟩ => by simp [h0]
  | x :: xs, _, _, ⟨c1, c2, F1, F2, hc, _, h1, h2⟩ => by
    subst hc
    have := RelL_length h xs c2 F2 h2
    have := h _ _ _ h1
    simp [List.length_append, Nat.add_mul, *]
    omega

theorem RelL_F {α : Type} {R : α → List Value → List Nat → Prop} (h : ∀ x cs F, R x cs F → F = []) : ∀ xs cs F, RelL R xs cs F → F = []
  | [], _, _, ⟨_, h0⟩ => h0
  | x :: xs, _, _, ⟨c1, c2, F1, F2, _, hF, h1, h2⟩ => by rw [hF, h _ _ _ h1, RelL_F h xs c2 F2 h2]; rfl

theorem RelL_append {α : Type} {R : α → List Value → List Nat → Prop} : ∀ (xs ys : List α) cs ds F G, RelL R xs cs F → RelL R ys ds G → RelL R (xs ++ ys) (cs ++ ds) (F ++ G)
  | [], ys, _, ds, _, G, ⟨h0, h1⟩, h => by subst h0; subst h1; simpa using h
  | x :: xs, ys, _, ds, _, G, ⟨c1, c2, F1, F2, hc, hF, h1, h2⟩, h => by
    subst hc; subst hF
    exact ⟨c1, c2 ++ ds, F1, F2 ++ G, by simp, by simp, h1, RelL_append xs ys c2 ds F2 G h2 h⟩

/-- one element out of a row -/
theorem RelL_of {α : Type} {R R' : α → List Value → List Nat → Prop} : ∀ {xs : List α} {cs : List Value} {F : List Nat}, RelL R xs cs F → (∀ x cs G, R x cs G → (∀ b ∈ G, b ∈ F) → R' x cs G) → RelL R' xs cs F
  | [], _, _, h, _ => h
  | x :: xs, _, _, ⟨c1, c2, F1, F2, hc, hF, h1, h2⟩, h => ⟨c1, c2, F1, F2, hc, hF, h _ _ _ h1 (fun b hb => by simp [hF, hb]), RelL_of h2 (fun x cs G hx hb => h x cs G hx (fun b hb' => by simp [hF, hb b hb']))⟩

theorem RelL_split {α : Type} {R : α → List Value → List Nat → Prop} {n : Nat} (hn : ∀ x cs F, R x cs F → cs.length = n) : ∀ (xs : List α) cs F (i : Nat) x, RelL R xs cs F → xs[i]? = some x →
    ∃ c1 c2 c3 F1 F2 F3, cs = c1 ++ c2 ++ c3 ∧ F = F1 ++ F2 ++ F3 ∧ c1.length = i * n ∧ R x c2 F2 ∧
      ∀ (R' : α → List Value → List Nat → Prop) y c2' F2', (∀ x cs F, R x cs F → (∀ b ∈ F, b ∈ F1 ++ F3) → R' x cs F) → R' y c2' F2' → RelL R' (xs.set i y) (c1 ++ c2' ++ c3) (F1 ++ F2' ++ F3)
  | [], _, _, _, _, _, h => by simp at h
  | x :: xs, _, _, 0, y, ⟨c1, c2, F1, F2, hc, hF, h1, h2⟩, h => by
    obtain rfl : x = y := by simpa using h
    refine ⟨[], c1, c2, [], F1, F2, by simpa using hc, by simpa using hF, by simp, h1, fun R' z c2' F2' hR hz => ⟨c2', c2, F2', F2, by simp, by simp, hz, ?_⟩⟩
    exact RelL_of h2 (fun x cs F h hb => hR x cs F h (by simpa using hb))
  | x :: xs, _, _, i + 1, y, ⟨c1, c2, F1, F2, hc, hF, h1, h2⟩, h => by
    obtain ⟨d1, d2, d3, G1, G2, G3, e1, e2, e3, e4, e5⟩ := RelL_split hn xs c2 F2 i y h2 (by simpa using h)
    subst hc; subst hF; subst e1; subst e2
    refine ⟨c1 ++ d1, d2, d3, F1 ++ G1, G2, G3, by simp, by simp, ?_, e4, fun R' z c2' F2' hR hz => ?_⟩
    · have := hn _ _ _ h1
      simp [List.length_append, e3, this, Nat.add_mul]; omega
    · exact ⟨c1, d1 ++ c2' ++ d3, F1, G1 ++ F2' ++ G3, by simp, by simp, hR _ _ _ h1 (fun b hb => by simp [hb]),
        e5 R' z c2' F2' (fun x cs F h hb => hR x cs F h (fun b hb' => by have := hb b hb'; simp at this ⊢; rcases this with h | h <;> simp [h])) hz⟩

/-! ### sizes -/
theorem Rel_length (w : World) (B : Nat → Prop) : ∀ (t : Ty) (x : T t) cs F, Rel w B t x cs F → cs.length = t.size
  | .int _, _, _, _, h => by rw [h.1]; rfl
  | .bool, _, _, _, h => by rw [h.1]; rfl
  | .str, _, _, _, ⟨_, h, _⟩ => by rw [h]; rfl
  | .unit, _, _, _, h => by rw [h.1]; rfl
  | .pair a b, x, _, _, ⟨c1, c2, F1, F2, hc, _, h1, h2⟩ => by
    rw [hc, List.length_append, Rel_length w B a x.1 c1 F1 h1, Rel_length w B b x.2 c2 F2 h2]; rfl
  | .agg a, x, cs, F, h => Rel_length w B a x cs F h
  | .arr n e, xs, cs, F, ⟨hn, h⟩ => by
    have := RelL_length (fun x cs F => Rel_length w B e x cs F) xs cs F h
    rw [this, hn]; rfl
  | .slice _, _, _, _, ⟨_, _, h, _⟩ => by rw [h]; rfl
  | .own _, _, _, _, ⟨_, h, _⟩ => by rw [h]; rfl
  | .app _, _, _, _, ⟨_, h, _⟩ => by rw [h]; rfl
  | .junk, _, _, _, ⟨⟨_, h, _⟩, _⟩ => by rw [h]; rfl
  | .ptr t, o, cs, F, h => by
    obtain ⟨_, h⟩ := h
    cases o with
    | none => have h : cs = _ := h; rw [h]; rfl
    | some x => obtain ⟨_, _, _, h, _⟩ := h; rw [h]; rfl
  | .box t, o, cs, F, h => by
    cases o with
    | none => have h : cs = _ ∧ _ := h; rw [h.1]; rfl
    | some x => obtain ⟨_, _, _, h, _⟩ := h; rw [h]; rfl
  | .nils _, _, _, _, h => by rw [h.1]; rfl
  | .nilp, _, _, _, h => by rw [h.1]; rfl
  | .nili, _, _, _, h => by rw [h.1]; rfl
  | .alt u t r, s, cs, F, h => by
    obtain ⟨_, h⟩ := h
    cases s with
    | inl x => obtain ⟨_, h, _⟩ := h; rw [h]; rfl
    | inr y => exact h.2


theorem RelL_plain {α : Type} {R : α → List Value → List Nat → Prop} (h : ∀ x cs F, R x cs F → ∀ c ∈ cs, Value.plain? c = true) : ∀ xs cs F, RelL R xs cs F → ∀ c ∈ cs, Value.plain? c = true
  | [], _, _, ⟨h0, _⟩, c, hc => by rw [h0] at hc; cases hc
  | x :: xs, _, _, ⟨c1, c2, F1, F2, hc, _, h1, h2⟩, c, hm => by
    rw [hc] at hm
    rcases List.mem_append.1 hm with hm | hm
    · exact h _ _ _ h1 c hm
    · exact RelL_plain h xs c2 F2 h2 c hm

theorem plain_one {cs : List Value} {v : Value} (h : cs = [v]) (hv : Value.plain? v = true) : ∀ c ∈ cs, Value.plain? c = true := by
  subst h; intro c hc; obtain rfl := List.mem_singleton.1 hc; exact hv

theorem OwR_plain {α : Type} {w : World} {sz : Nat} {R : α → List Value → List Nat → Prop} {xs : List α} {v : Value} {F : List Nat} (h : OwR w sz R xs v F) : Value.plain? v = true := by
  rcases h with ⟨_, h, _⟩ | ⟨_, _, _, _, h, _⟩ <;> rw [h] <;> rfl

theorem SlR_plain {α : Type} {w : World} {B : Nat → Prop} {sz : Nat} {R : α → List Value → List Nat → Prop} {xs : List α} {v : Value} {c : Bool} (h : SlR w B sz R xs v c) : Value.plain? v = true := by
  obtain ⟨_, _, _, h, _⟩ := h; rw [h]; rfl

/-- cells hold no structs -/
theorem Rel_plain (w : World) (B : Nat → Prop) : ∀ (t : Ty) (x : T t) cs F, Rel w B t x cs F → ∀ c ∈ cs, Value.plain? c = true
  | .int _, _, _, _, h => plain_one h.1 rfl
  | .bool, _, _, _, h => plain_one h.1 rfl
  | .str, _, _, _, ⟨_, h, _⟩ => plain_one h rfl
  | .unit, _, _, _, h => by intro c hc; rw [h.1] at hc; cases hc
  | .pair a b, x, _, _, ⟨c1, c2, F1, F2, hc, _, h1, h2⟩ => by
    intro c hm
    rw [hc] at hm
    rcases List.mem_append.1 hm with hm | hm
    · exact Rel_plain w B a x.1 c1 F1 h1 c hm
    · exact Rel_plain w B b x.2 c2 F2 h2 c hm
  | .agg a, x, cs, F, h => Rel_plain w B a x cs F h
  | .arr n e, xs, cs, F, ⟨_, h⟩ => RelL_plain (fun x cs F h => Rel_plain w B e x cs F h) xs cs F h
  | .slice _, _, _, _, ⟨_, _, h, h1⟩ => plain_one h (SlR_plain h1)
  | .own _, _, _, _, ⟨_, h, h1⟩ => plain_one h (OwR_plain h1)
  | .app _, _, _, _, ⟨_, h, h1⟩ => plain_one h (h1.elim OwR_plain fun h => SlR_plain h.2)
  | .junk, _, _, _, ⟨⟨_, h, h1⟩, _⟩ => plain_one h h1
  | .ptr t, o, cs, F, h => by
    obtain ⟨_, h⟩ := h
    cases o with
    | none => exact plain_one h rfl
    | some x => obtain ⟨_, _, _, h, _⟩ := h; exact plain_one h rfl
  | .box t, o, cs, F, h => by
    cases o with
    | none => exact plain_one h.1 rfl
    | some x => obtain ⟨_, _, _, h, _⟩ := h; exact plain_one h rfl
  | .nils _, _, _, _, h => plain_one h.1 rfl
  | .nilp, _, _, _, h => plain_one h.1 rfl
  | .nili, _, _, _, h => plain_one h.1 rfl
  | .alt u t r, s, cs, F, h => by
    obtain ⟨_, h⟩ := h
    cases s with
    | inl x => obtain ⟨_, h, _⟩ := h; exact plain_one h rfl
    | inr y => exact Rel_plain w B r y cs [] h.1

theorem Rel_pure (w : World) (B : Nat → Prop) : ∀ (t : Ty) (x : T t) cs F, t.pure = true → Rel w B t x cs F → F = []
  | .int _, _, _, _, _, h => h.2.2
  | .bool, _, _, _, _, h => h.2
  | .str, _, _, _, _, ⟨_, _, _, _, h⟩ => h
  | .unit, _, _, _, _, h => h.2
  | .pair a b, x, _, _, hp, ⟨c1, c2, F1, F2, _, hF, h1, h2⟩ => by
    simp only [Ty.pure, Bool.and_eq_true] at hp
    rw [hF, Rel_pure w B a x.1 c1 F1 hp.1 h1, Rel_pure w B b x.2 c2 F2 hp.2 h2]; rfl
  | .agg a, x, cs, F, hp, h => Rel_pure w B a x cs F hp h
  | .arr n e, xs, cs, F, hp, ⟨_, h⟩ => RelL_F (fun x cs F h => Rel_pure w B e x cs F hp h) xs cs F h
  | .slice _, _, _, _, _, h => h.1
  | .own _, _, _, _, hp, _ => by simp [Ty.pure] at hp
  | .app _, _, _, _, hp, _ => by simp [Ty.pure] at hp
  | .junk, _, _, _, hp, _ => by simp [Ty.pure] at hp
  | .ptr _, _, _, _, _, h => h.1
  | .box _, _, _, _, hp, _ => by simp [Ty.pure] at hp
  | .nils _, _, _, _, _, h => h.2
  | .nilp, _, _, _, _, h => h.2
  | .nili, _, _, _, _, h => h.2
  | .alt _ _ _, _, _, _, _, h => h.1

/-! ### worlds in which nothing of it has changed -/
def Same (w w' : World) (b : Nat) : Prop := w'.heap[b]? = w.heap[b]?

theorem Rows.same {w w' : World} {b o : Nat} {cs : List Value} (h : Rows w b o cs) (hs : Same w w' b) : Rows w' b o cs := by
  intro i v hi
  have := h i v hi
  simp only [World.cell?] at this ⊢
  unfold Same at hs
  rw [hs]; exact this

theorem Blk.same {w w' : World} {b : Nat} {c : Array Value} (h : Blk w b c) (hs : Same w w' b) : Blk w' b c := by
  obtain ⟨ty, fr, h1, h2⟩ := h
  exact ⟨ty, fr, hs.trans h1, h2⟩

theorem SlR.mono {α : Type} {w w' : World} {B B' : Nat → Prop} {sz : Nat} {R R' : α → List Value → List Nat → Prop} {xs : List α} {v : Value} {c : Bool}
    (h : SlR w B sz R xs v c) (hs : ∀ b, B b → Same w w' b) (hB : ∀ b, B b → B' b) (hR : ∀ x cs, R x cs [] → R' x cs []) (hp : ∀ x cs F, R x cs F → F = [] → True) : SlR w' B' sz R' xs v c := by
  obtain ⟨a, cap, cells, hv, h1, h2, h3, h4, h5, h6⟩ := h
  refine ⟨a, cap, cells, hv, h1, h2, h3, h4, ?_, ?_⟩
  · have key : ∀ (xs : List α) (cs : List Value) F, F = [] → RelL R xs cs F → RelL R' xs cs F := by
      intro xs
      induction xs with
      | nil => intro cs F _ h; exact h
      | cons x xs ih =>
        rintro cs F hF ⟨c1, c2, F1, F2, hc, hF', h1, h2⟩
        have hh : F1 = [] ∧ F2 = [] := List.append_eq_nil_iff.1 (hF'.symm.trans hF)
        obtain ⟨rfl, rfl⟩ := hh
        exact ⟨c1, c2, [], [], hc, hF', hR _ _ h1, ih c2 [] rfl h2⟩
    exact key xs cells [] rfl h5
  · cases a with
    | none => exact h6
    | some ad => exact h6.imp id fun ⟨s, x, y⟩ => ⟨s, hB _ x, y.same (hs _ x)⟩

theorem RelL_same {α : Type} {R R' : α → List Value → List Nat → Prop} {w w' : World} (h : ∀ x cs F, R x cs F → (∀ b ∈ F, Same w w' b) → R' x cs F) :
    ∀ (xs : List α) cs F, RelL R xs cs F → (∀ b ∈ F, Same w w' b) → RelL R' xs cs F
  | [], _, _, h0, _ => h0
  | _ :: xs, _, _, ⟨c1, c2, F1, F2, hc, hF, h1, h2⟩, hs => by
    subst hF
    exact ⟨c1, c2, F1, F2, hc, rfl, h _ _ _ h1 (fun b hb => hs b (List.mem_append.2 (.inl hb))), RelL_same h xs c2 F2 h2 (fun b hb => hs b (List.mem_append.2 (.inr hb)))⟩

theorem OwR.same {α : Type} {w w' : World} {sz : Nat} {R R' : α → List Value → List Nat → Prop} {xs : List α} {v : Value} {F : List Nat}
    (h : OwR w sz R xs v F) (hR : ∀ x cs F, R x cs F → (∀ b ∈ F, Same w w' b) → R' x cs F) (hs : ∀ b ∈ F, Same w w' b) : OwR w' sz R' xs v F := by
  rcases h with h | ⟨b, cap, c, F', hv, h1, h2, h3, h4, h5, h6⟩
  · exact .inl h
  · subst h6
    exact .inr ⟨b, cap, c, F', hv, h1, h2, h3.same (hs b (by simp)), h4, RelL_same hR xs _ F' h5 (fun x hx => hs x (List.mem_cons_of_mem _ hx)), rfl⟩

theorem Rel_same {w w' : World} {B B' : Nat → Prop} (hs : ∀ b, B b → Same w w' b) (hB : ∀ b, B b → B' b) : ∀ (t : Ty) (x : T t) cs F, Rel w B t x cs F → (∀ b ∈ F, Same w w' b) → Rel w' B' t x cs F
  | .int _, _, _, _, h, _ => h
  | .bool, _, _, _, h, _ => h
  | .str, _, _, _, h, _ => h
  | .unit, _, _, _, h, _ => h
  | .pair a b, x, _, _, ⟨c1, c2, F1, F2, hc, hF, h1, h2⟩, hf => by
    subst hF
    exact ⟨c1, c2, F1, F2, hc, rfl, Rel_same hs hB a x.1 c1 F1 h1 (fun b hb => hf b (List.mem_append.2 (.inl hb))), Rel_same hs hB b x.2 c2 F2 h2 (fun b hb => hf b (List.mem_append.2 (.inr hb)))⟩
  | .agg a, x, cs, F, h, hf => Rel_same hs hB a x cs F h hf
  | .arr n e, xs, cs, F, ⟨hn, h⟩, hf => ⟨hn, RelL_same (fun x cs F h hf => Rel_same hs hB e x cs F h hf) xs cs F h hf⟩
  | .slice e, xs, cs, F, ⟨hF, v, hv, h⟩, _ => ⟨hF, v, hv, h.mono hs hB (fun x cs h => Rel_same hs hB e x cs [] h (by simp)) (fun _ _ _ _ _ => trivial)⟩
  | .own e, xs, cs, F, ⟨v, hv, h⟩, hf => ⟨v, hv, h.same (fun x cs F h hf => Rel_same hs hB e x cs F h hf) hf⟩
  | .app e, xs, cs, F, ⟨v, hv, h⟩, hf => ⟨v, hv, h.imp (fun h => h.same (fun x cs F h hf => Rel_same hs hB e x cs F h hf) hf)
      (fun h => ⟨h.1, h.2.mono hs hB (fun x cs h => Rel_same hs hB e x cs [] h (by simp)) (fun _ _ _ _ _ => trivial)⟩)⟩
  | .junk, _, _, _, h, _ => h
  | .ptr t, o, cs, F, h, _ => by
    obtain ⟨hF, h⟩ := h
    refine ⟨hF, ?_⟩
    cases o with
    | none => exact h
    | some x => obtain ⟨b, off, cells, h1, h2, h3, h4⟩ := h; exact ⟨b, off, cells, h1, hB _ h2, h3.same (hs _ h2), Rel_same hs hB t x cells [] h4 (by simp)⟩
  | .box t, o, cs, F, h, hf => by
    cases o with
    | none => exact h
    | some x =>
      obtain ⟨b, c, F', h1, h2, h3, h4⟩ := h
      subst h4
      exact ⟨b, c, F', h1, h2.same (hf b (by simp)), Rel_same hs hB t x _ F' h3 (fun y hy => hf y (List.mem_cons_of_mem _ hy)), rfl⟩
  | .nils _, _, _, _, h, _ => h
  | .nilp, _, _, _, h, _ => h
  | .nili, _, _, _, h, _ => h
  | .alt u t r, s, cs, F, h, _ => by
    obtain ⟨hF, h⟩ := h
    refine ⟨hF, ?_⟩
    cases s with
    | inl x => obtain ⟨v, h1, h2, h3⟩ := h; exact ⟨v, h1, Rel_same hs hB t x _ [] h2 (by simp), h3⟩
    | inr y => exact ⟨Rel_same hs hB r y cs [] h.1 (by simp), h.2⟩

theorem VR.same {w w' : World} {B B' : Nat → Prop} {t : Ty} {x : T t} {v : Value} {F : List Nat} (h : VR w B t x v F) (hs : ∀ b, B b → Same w w' b) (hB : ∀ b, B b → B' b) (hf : ∀ b ∈ F, Same w w' b) : VR w' B' t x v F :=
  ⟨Rel_same hs hB t x _ F h.1 hf, h.2⟩

/-! ### what is owned is given up -/
theorem RelL_nil {α : Type} {R : α → List Value → List Nat → Prop} (hp : ∀ x cs F, R x cs F → F = []) {xs : List α} {cs : List Value} {F : List Nat} (h : RelL R xs cs F) : RelL R xs cs [] := by
  have := RelL_F hp xs cs F h
  subst this; exact h

theorem take_getElem? {α : Type} {l : List α} {n i : Nat} {x : α} (h : (l.take n)[i]? = some x) : l[i]? = some x := by
  rw [List.getElem?_take] at h
  split at h
  · exact h
  · cases h

theorem cell_of_heap {w : World} {b : Nat} {c : Array Value} {ty : TypeId} {fr : Nat × Nat} (h : w.heap[b]? = some (.cells c ty fr)) (i : Nat) : w.cell? ⟨b, i, none⟩ = c[i]? := by
  simp [World.cell?, h]

theorem Blk.cell {w : World} {b : Nat} {c : Array Value} (h : Blk w b c) (i : Nat) : w.cell? ⟨b, i, none⟩ = c[i]? := by
  obtain ⟨ty, fr, h, _⟩ := h
  exact cell_of_heap h i

theorem Blk.lt {w : World} {b : Nat} {c : Array Value} (h : Blk w b c) : b < w.heap.size := by
  obtain ⟨ty, fr, h, _⟩ := h
  rcases Nat.lt_or_ge b w.heap.size with h1 | h1
  · exact h1
  · simp [Array.getElem?_eq_none h1] at h

theorem Rows_of_heap {w : World} {b : Nat} {c : Array Value} (h : Blk w b c) {cs : List Value} (hc : ∀ (i : Nat) (v : Value), cs[i]? = some v → c[i]? = some v) : Rows w b 0 cs := by
  intro i v hi
  rw [Nat.zero_add, h.cell]
  exact hc i v hi

theorem OwR_slice {α : Type} {w : World} {B : Nat → Prop} {sz : Nat} {R R' : α → List Value → List Nat → Prop} {xs : List α} {v : Value} {F : List Nat}
    (h : OwR w sz R xs v F) (hp : ∀ x cs F, R x cs F → F = []) (hR : ∀ x cs, R x cs [] → R' x cs []) (hn : ∀ x cs F, R x cs F → cs.length = sz) : SlR w (fun b => B b ∨ b ∈ F) sz R' xs v false := by
  rcases h with ⟨h1, h2, h3⟩ | ⟨b, cap, c, F', hv, h1, h2, h3, h4, h5, h6⟩
  · subst h1; subst h2
    exact ⟨none, 0, [], rfl, by simp, by simp [maxLen], by simp, by simp, ⟨rfl, rfl⟩, rfl⟩
  · have h5' := RelL_nil hp h5
    have key : ∀ (xs : List α) (cs : List Value), RelL R xs cs [] → RelL R' xs cs [] := by
      intro xs
      induction xs with
      | nil => intro cs h; exact h
      | cons x xs ih =>
        rintro cs ⟨c1, c2, F1, F2, hc, hF', g1, g2⟩
        obtain ⟨rfl, rfl⟩ := List.append_eq_nil_iff.1 hF'.symm
        exact ⟨c1, c2, [], [], hc, rfl, hR _ _ g1, ih c2 g2⟩
    refine ⟨some ⟨b, 0, none⟩, cap, _, hv, h1, h2, by simp, RelL_length hn _ _ _ h5', key _ _ h5', .inr ⟨rfl, .inr (by simp [h6]), ?_⟩⟩
    exact Rows_of_heap h3 fun i v hi => by have := take_getElem? hi; simpa using this

theorem Rel_frz {w : World} {B : Nat → Prop} : ∀ (t : Ty) (x : T t) cs F, (frz t).pure = true → Rel w B t x cs F → Rel w (fun b => B b ∨ b ∈ F) (frz t) (frzV t x) cs []
  | .int _, _, _, _, _, h => ⟨h.1, h.2.1, rfl⟩
  | .bool, _, _, _, _, h => ⟨h.1, rfl⟩
  | .str, _, _, _, _, ⟨b, h1, h2, h3, _⟩ => ⟨b, h1, h2, h3, rfl⟩
  | .unit, _, _, _, _, h => ⟨h.1, rfl⟩
  | .pair a b, x, _, _, hp, ⟨c1, c2, F1, F2, hc, hF, h1, h2⟩ => by
    simp only [frz, Ty.pure, Bool.and_eq_true] at hp
    subst hF
    refine ⟨c1, c2, [], [], hc, rfl, ?_, ?_⟩
    · exact Rel_same (fun _ _ => rfl) (fun b hb => hb.imp id fun h => List.mem_append.2 (.inl h)) _ _ _ _ (Rel_frz a x.1 c1 F1 hp.1 h1) (by simp)
    · exact Rel_same (fun _ _ => rfl) (fun b hb => hb.imp id fun h => List.mem_append.2 (.inr h)) _ _ _ _ (Rel_frz b x.2 c2 F2 hp.2 h2) (by simp)
  | .agg a, x, cs, F, hp, h => Rel_frz a x cs F hp h
  | .arr n e, xs, cs, F, hp, h => by
    have := Rel_pure w B (.arr n e) xs cs F hp h
    subst this
    exact Rel_same (t := .arr n e) (fun _ _ => rfl) (fun _ h => .inl h) _ _ _ h (by simp)
  | .slice e, xs, cs, F, hp, h => by
    have := Rel_pure w B (.slice e) xs cs F hp h
    subst this
    exact Rel_same (t := .slice e) (fun _ _ => rfl) (fun _ h => .inl h) _ _ _ h (by simp)
  | .own e, xs, cs, F, hp, ⟨v, hv, h⟩ => ⟨rfl, v, hv, OwR_slice h (fun x cs F h => Rel_pure w B e x cs F hp h) (fun x cs h => Rel_same (fun _ _ => rfl) (fun _ h => .inl h) e x cs [] h (by simp)) (fun x cs F h => Rel_length w B e x cs F h)⟩
  | .app e, xs, cs, F, hp, ⟨v, hv, h⟩ => by
    refine ⟨rfl, v, hv, ?_⟩
    rcases h with h | ⟨hF, h⟩
    · exact OwR_slice h (fun x cs F h => Rel_pure w B e x cs F hp h) (fun x cs h => Rel_same (fun _ _ => rfl) (fun _ h => .inl h) e x cs [] h (by simp)) (fun x cs F h => Rel_length w B e x cs F h)
    · obtain ⟨a, cap, cells, h1, h2, h3, h4, h5, h6, h7⟩ := h.mono (w' := w) (B' := fun b => B b ∨ b ∈ F) (R' := Rel w (fun b => B b ∨ b ∈ F) e) (fun _ _ => rfl) (fun _ h => .inl h) (fun x cs h => Rel_same (fun _ _ => rfl) (fun _ h => .inl h) e x cs [] h (by simp)) (fun _ _ _ _ _ => trivial)
      exact ⟨a, cap, cells, h1, h2, h3, by simp, h5, h6, h7⟩
  | .junk, _, _, _, hp, _ => by simp [frz, Ty.pure] at hp
  | .ptr t, o, cs, F, hp, h => by
    have := Rel_pure w B (.ptr t) o cs F hp h
    subst this
    exact Rel_same (t := .ptr t) (fun _ _ => rfl) (fun _ h => .inl h) _ _ _ h (by simp)
  | .box t, o, cs, F, hp, h => by
    refine ⟨rfl, ?_⟩
    cases o with
    | none => exact h.1
    | some x =>
      obtain ⟨b, c, F', h1, h2, h3, h4⟩ := h
      have := Rel_pure w B t x _ F' hp h3
      subst this; subst h4
      exact ⟨b, 0, c.toList, h1, .inr (by simp), Rows_of_heap h2 (fun i v hi => by simpa using hi), Rel_same (fun _ _ => rfl) (fun _ h => .inl h) t x _ [] h3 (by simp)⟩
  | .nils _, _, _, _, _, h => ⟨h.1, rfl⟩
  | .nilp, _, _, _, _, h => ⟨h.1, rfl⟩
  | .nili, _, _, _, _, h => ⟨h.1, rfl⟩
  | .alt u t r, s, cs, F, hp, h => by
    have := Rel_pure w B (.alt u t r) s cs F hp h
    subst this
    exact Rel_same (t := .alt u t r) (fun _ _ => rfl) (fun _ h => .inl h) _ _ _ h (by simp)


/-! ### a value as one of a wider kind -/
theorem inj_rel {w : World} {B : Nat → Prop} {u : Nat} {t : Ty} {x : T t} {v : Value} (h : Rel w B t x v.cells.toList []) (ha : Value.agg? v = t.isAgg) : ∀ (b : Ty) (f : T t → T b), inj u t b = some f → Rel w B b (f x) [.iface u v] []
  | .alt u' t' r, f, hf => by
    unfold inj at hf
    split at hf
    · rename_i hu
      split at hf
      · rename_i ht
        subst ht; subst hu
        obtain rfl := Option.some.inj hf
        exact ⟨rfl, v, rfl, h, ha⟩
      · cases hf
    · cases hg : inj u t r with
      | none => rw [hg] at hf; cases hf
      | some g =>
        rw [hg] at hf
        obtain rfl := Option.some.inj hf
        exact ⟨rfl, inj_rel h ha r g hg, rfl⟩
  | .int _, _, hf => by simp [inj] at hf
  | .bool, _, hf => by simp [inj] at hf
  | .str, _, hf => by simp [inj] at hf
  | .unit, _, hf => by simp [inj] at hf
  | .pair _ _, _, hf => by simp [inj] at hf
  | .agg _, _, hf => by simp [inj] at hf
  | .arr _ _, _, hf => by simp [inj] at hf
  | .slice _, _, hf => by simp [inj] at hf
  | .own _, _, hf => by simp [inj] at hf
  | .app _, _, hf => by simp [inj] at hf
  | .junk, _, hf => by simp [inj] at hf
  | .ptr _, _, hf => by simp [inj] at hf
  | .box _, _, hf => by simp [inj] at hf
  | .nils _, _, hf => by simp [inj] at hf
  | .nilp, _, hf => by simp [inj] at hf
  | .nili, _, hf => by simp [inj] at hf

theorem toNil_rel {w : World} {B : Nat → Prop} : ∀ (b : Ty) (y : T b), toNil b = some y → Rel w B b y [.nilIface] []
  | .nili, _, _ => ⟨rfl, rfl⟩
  | .alt _ _ r, y, h => by
    cases hr : toNil r with
    | none => simp [toNil, hr] at h
    | some z =>
      simp only [toNil, hr, Option.map_some, Option.some.injEq] at h
      subst h
      exact ⟨rfl, toNil_rel r z hr, rfl⟩
  | .int _, _, hf => by simp [toNil] at hf
  | .bool, _, hf => by simp [toNil] at hf
  | .str, _, hf => by simp [toNil] at hf
  | .unit, _, hf => by simp [toNil] at hf
  | .pair _ _, _, hf => by simp [toNil] at hf
  | .agg _, _, hf => by simp [toNil] at hf
  | .arr _ _, _, hf => by simp [toNil] at hf
  | .slice _, _, hf => by simp [toNil] at hf
  | .own _, _, hf => by simp [toNil] at hf
  | .app _, _, hf => by simp [toNil] at hf
  | .junk, _, hf => by simp [toNil] at hf
  | .ptr _, _, hf => by simp [toNil] at hf
  | .box _, _, hf => by simp [toNil] at hf
  | .nils _, _, hf => by simp [toNil] at hf
  | .nilp, _, hf => by simp [toNil] at hf

theorem cvAlt_rel {w : World} {B : Nat → Prop} : ∀ (a b : Ty) (f : T a → T b), cvAlt a b = some f → ∀ (x : T a) cs F, Rel w B a x cs F → Rel w B b (f x) cs F
  | .nili, b, f, hf, x, cs, F, h => by
    cases hb : toNil b with
    | none => simp [cvAlt, hb] at hf
    | some y =>
      simp only [cvAlt, hb, Option.map_some, Option.some.injEq] at hf
      subst hf
      obtain ⟨rfl, rfl⟩ := h
      exact toNil_rel b y hb
  | .alt u t r, b, f, hf, x, cs, F, h => by
    cases hi : inj u t b with
    | none => simp [cvAlt, hi] at hf
    | some g =>
      cases hr : cvAlt r b with
      | none => simp [cvAlt, hi, hr] at hf
      | some k =>
        simp only [cvAlt, hi, hr, Option.bind_some, Option.map_some, Option.some.injEq] at hf
        subst hf
        obtain ⟨rfl, h⟩ := h
        cases x with
        | inl y => obtain ⟨v, rfl, h1, h2⟩ := h; exact inj_rel h1 h2 b g hi
        | inr y => exact cvAlt_rel r b k hr y cs [] h.1
  | .int _, _, _, hf, _, _, _, _ => by simp [cvAlt] at hf
  | .bool, _, _, hf, _, _, _, _ => by simp [cvAlt] at hf
  | .str, _, _, hf, _, _, _, _ => by simp [cvAlt] at hf
  | .unit, _, _, hf, _, _, _, _ => by simp [cvAlt] at hf
  | .pair _ _, _, _, hf, _, _, _, _ => by simp [cvAlt] at hf
  | .agg _, _, _, hf, _, _, _, _ => by simp [cvAlt] at hf
  | .arr _ _, _, _, hf, _, _, _, _ => by simp [cvAlt] at hf
  | .slice _, _, _, hf, _, _, _, _ => by simp [cvAlt] at hf
  | .own _, _, _, hf, _, _, _, _ => by simp [cvAlt] at hf
  | .app _, _, _, hf, _, _, _, _ => by simp [cvAlt] at hf
  | .junk, _, _, hf, _, _, _, _ => by simp [cvAlt] at hf
  | .ptr _, _, _, hf, _, _, _, _ => by simp [cvAlt] at hf
  | .box _, _, _, hf, _, _, _, _ => by simp [cvAlt] at hf
  | .nils _, _, _, hf, _, _, _, _ => by simp [cvAlt] at hf
  | .nilp, _, _, hf, _, _, _, _ => by simp [cvAlt] at hf

theorem cvC_rel {w : World} {B : Nat → Prop} (a b : Ty) (f : T a → T b) (hf : cvC a b = some f) (x : T a) (cs : List Value) (F : List Nat) (h : Rel w B a x cs F) : Rel w B b (f x) cs F := by
  cases a <;> cases b <;> first | (simp only [cvC] at hf; cases hf; done) | skip
  case nils.slice e e' =>
    simp only [cvC] at hf
    split at hf
    · rename_i he; subst he; obtain rfl := Option.some.inj hf; obtain ⟨rfl, rfl⟩ := h
      exact ⟨rfl, _, rfl, none, 0, [], rfl, by simp, by simp [maxLen], by simp, by simp, ⟨rfl, rfl⟩, rfl⟩
    · cases hf
  case nils.own e e' =>
    simp only [cvC] at hf
    split at hf
    · rename_i he; subst he; obtain rfl := Option.some.inj hf; obtain ⟨rfl, rfl⟩ := h
      exact ⟨_, rfl, .inl ⟨rfl, rfl, rfl⟩⟩
    · cases hf
  case nils.app e e' =>
    simp only [cvC] at hf
    split at hf
    · rename_i he; subst he; obtain rfl := Option.some.inj hf; obtain ⟨rfl, rfl⟩ := h
      exact ⟨_, rfl, .inl (.inl ⟨rfl, rfl, rfl⟩)⟩
    · cases hf
  case own.app e e' =>
    simp only [cvC] at hf
    split at hf
    · rename_i he; subst he; obtain rfl := Option.some.inj hf
      obtain ⟨v, hv, h⟩ := h
      exact ⟨v, hv, .inl h⟩
    · cases hf
  case nilp.ptr t =>
    obtain rfl := Option.some.inj hf
    exact ⟨h.2, h.1⟩
  case nilp.box t =>
    obtain rfl := Option.some.inj hf
    exact ⟨h.1, h.2⟩
  case nili.alt u t r => exact cvAlt_rel _ _ f hf x cs F h
  case alt.alt u t r u' t' r' => exact cvAlt_rel _ _ f hf x cs F h

theorem cvB_rel {w : World} {B : Nat → Prop} (a b : Ty) (f : T a → T b) (hf : cvB a b = some f) (x : T a) (cs : List Value) (F : List Nat) (h : Rel w B a x cs F) : Rel w B b (f x) cs F := by
  unfold cvB at hf
  split at hf
  · rename_i e; subst e; obtain rfl := Option.some.inj hf; exact h
  · exact cvC_rel a b f hf x cs F h

theorem cv_rel {w : World} {B : Nat → Prop} : ∀ (a b : Ty) (f : T a → T b), cv a b = some f → ∀ (x : T a) cs F, Rel w B a x cs F → Rel w B b (f x) cs F := by
  intro a
  induction a with
  | pair a1 a2 ih1 ih2 =>
    intro b f hf x cs F h
    cases b with
    | pair b1 b2 =>
      simp only [cv] at hf
      cases h1 : cv a1 b1 with
      | none => rw [h1] at hf; cases hf
      | some g1 =>
        cases h2 : cv a2 b2 with
        | none => rw [h1, h2] at hf; cases hf
        | some g2 =>
          rw [h1, h2] at hf
          obtain rfl := Option.some.inj hf
          obtain ⟨c1, c2, F1, F2, hc, hF, k1, k2⟩ := h
          exact ⟨c1, c2, F1, F2, hc, hF, ih1 _ _ h1 _ _ _ k1, ih2 _ _ h2 _ _ _ k2⟩
    | _ => exact cvB_rel _ _ f (by simpa only [cv] using hf) x cs F h
  | agg a ih =>
    intro b f hf x cs F h
    cases b with
    | agg b => exact ih b f (by simpa only [cv] using hf) x cs F h
    | _ => exact cvB_rel _ _ f (by simpa only [cv] using hf) x cs F h
  | _ => intro b f hf x cs F h; exact cvB_rel _ _ f (by simpa only [cv] using hf) x cs F h

theorem cv_agg : ∀ (a b : Ty) (f : T a → T b), cv a b = some f → a.isAgg = b.isAgg := by
  intro a b f hf
  have key : ∀ a b (f : T a → T b), cvB a b = some f → a.isAgg = b.isAgg := by
    intro a b f hf
    unfold cvB at hf
    split at hf
    · rename_i e; rw [e]
    · cases a <;> cases b <;> first | rfl | (simp only [cvC] at hf; cases hf; done)
  cases a <;> cases b <;> first | rfl | exact key _ _ f (by simpa only [cv] using hf)

/-! ### paths -/
theorem getF_rel {w : World} {B : Nat → Prop} : ∀ (t : Ty) (x : T t) (i : Nat) (y : ODyn) (v : T y.ty) cs F, getF t (some x) i = some y → y.val = some v → Rel w B t x cs F →
    ∃ o pre mid post F1 F2 F3, offF t i = some (o, y.ty) ∧ cs = pre ++ mid ++ post ∧ pre.length = o ∧ F = F1 ++ F2 ++ F3 ∧ Rel w B y.ty v mid F2 ∧
      ∀ (w' : World) (B' : Nat → Prop), (∀ b, B b → Same w w' b) → (∀ b, B b → B' b) → (∀ b ∈ F1 ++ F3, Same w w' b) →
      ∀ (u : Ty) (z : T u) mid' F2' (r : ODyn) (k : T r.ty), Rel w' B' u z mid' F2' → setF t (some x) i ⟨u, some z⟩ = some r → r.val = some k → Rel w' B' r.ty k (pre ++ mid' ++ post) (F1 ++ F2' ++ F3)
  | .pair a b, x, 0, y, v, cs, F, hg, hv, h => by
    simp only [getF, Option.some.injEq] at hg
    subst hg
    simp only [Option.map_some, Option.some.injEq] at hv
    subst hv
    obtain ⟨c1, c2, F1, F2, rfl, rfl, h1, h2⟩ := h
    refine ⟨0, [], c1, c2, [], F1, F2, rfl, by simp, rfl, by simp, h1, fun w' B' hws hwB hwF u z mid' F2' r k hz hs hk => ?_⟩
    simp only [setF, Option.some.injEq] at hs
    subst hs
    simp only [Option.bind_some, Option.map_some, Option.some.injEq] at hk
    subst hk
    exact ⟨mid', c2, F2', F2, by simp, by simp, hz, Rel_same hws hwB _ _ _ _ h2 (by simpa using hwF)⟩
  | .pair a b, x, i + 1, y, v, cs, F, hg, hv, h => by
    simp only [getF, Option.map_some] at hg
    obtain ⟨c1, c2, F1, F2, rfl, rfl, h1, h2⟩ := h
    obtain ⟨o, pre, mid, post, G1, G2, G3, ho, rfl, hl, rfl, hm, hset⟩ := getF_rel b x.2 i y v c2 F2 hg hv h2
    refine ⟨a.size + o, c1 ++ pre, mid, post, F1 ++ G1, G2, G3, by simp [offF, ho], by simp, ?_, by simp, hm, fun w' B' hws hwB hwF u z mid' F2' r k hz hs hk => ?_⟩
    · rw [List.length_append, Rel_length w B a _ _ _ h1, hl]
    · simp only [setF, Option.map_some] at hs
      cases hb : setF b (some x.2) i ⟨u, some z⟩ with
      | none => rw [hb] at hs; cases hs
      | some r' =>
        rw [hb] at hs
        simp only [Option.map_some, Option.some.injEq] at hs
        subst hs
        simp only [Option.bind_some] at hk
        cases hr : r'.val with
        | none => rw [hr] at hk; cases hk
        | some k' =>
          rw [hr] at hk
          simp only [Option.map_some, Option.some.injEq] at hk
          subst hk
          exact ⟨c1, pre ++ mid' ++ post, F1, G1 ++ F2' ++ G3, by simp, by simp, Rel_same hws hwB _ _ _ _ h1 (fun b hb => hwF b (by simp [hb])),
            hset w' B' hws hwB (fun b hb => hwF b (by rcases List.mem_append.1 hb with hb | hb <;> simp [hb])) u z mid' F2' r' k' hz hb hr⟩
  | .int _, _, _, _, _, _, _, hg, _, _ => by simp [getF] at hg
  | .bool, _, _, _, _, _, _, hg, _, _ => by simp [getF] at hg
  | .str, _, _, _, _, _, _, hg, _, _ => by simp [getF] at hg
  | .unit, _, _, _, _, _, _, hg, _, _ => by simp [getF] at hg
  | .agg _, _, _, _, _, _, _, hg, _, _ => by simp [getF] at hg
  | .arr _ _, _, _, _, _, _, _, hg, _, _ => by simp [getF] at hg
  | .slice _, _, _, _, _, _, _, hg, _, _ => by simp [getF] at hg
  | .own _, _, _, _, _, _, _, hg, _, _ => by simp [getF] at hg
  | .app _, _, _, _, _, _, _, hg, _, _ => by simp [getF] at hg
  | .junk, _, _, _, _, _, _, hg, _, _ => by simp [getF] at hg
  | .ptr _, _, _, _, _, _, _, hg, _, _ => by simp [getF] at hg
  | .box _, _, _, _, _, _, _, hg, _, _ => by simp [getF] at hg
  | .nils _, _, _, _, _, _, _, hg, _, _ => by simp [getF] at hg
  | .nilp, _, _, _, _, _, _, hg, _, _ => by simp [getF] at hg
  | .nili, _, _, _, _, _, _, hg, _, _ => by simp [getF] at hg
  | .alt _ _ _, _, _, _, _, _, _, hg, _, _ => by simp [getF] at hg

theorem rdI_some {α : Type} {xs : List α} {i : Int} {v : α} (h : rdI xs i = some v) : 0 ≤ i ∧ xs[i.toNat]? = some v := by
  unfold rdI at h
  split at h
  · exact ⟨by assumption, h⟩
  · cases h

theorem stI_some {α : Type} {xs ys : List α} {i : Int} {v : α} (h : stI xs i v = some ys) : 0 ≤ i ∧ i.toNat < xs.length ∧ ys = xs.set i.toNat v := by
  unfold stI at h
  split at h
  · rename_i hc; exact ⟨hc.1, hc.2, (Option.some.inj h).symm⟩
  · cases h

theorem getS_rel {w : World} {B : Nat → Prop} (t : Ty) (x : T t) (s : PS) (y : ODyn) (v : T y.ty) (cs : List Value) (F : List Nat) (hg : getS ⟨t, some x⟩ s = some y) (hv : y.val = some v) (h : Rel w B t x cs F) :
    ∃ o pre mid post F1 F2 F3, offS t s = some (o, y.ty) ∧ cs = pre ++ mid ++ post ∧ pre.length = o ∧ F = F1 ++ F2 ++ F3 ∧ Rel w B y.ty v mid F2 ∧
      ∀ (w' : World) (B' : Nat → Prop), (∀ b, B b → Same w w' b) → (∀ b, B b → B' b) → (∀ b ∈ F1 ++ F3, Same w w' b) →
      ∀ (u : Ty) (z : T u) mid' F2' (r : ODyn) (k : T r.ty), Rel w' B' u z mid' F2' → setS ⟨t, some x⟩ s ⟨u, some z⟩ = some r → r.val = some k → Rel w' B' r.ty k (pre ++ mid' ++ post) (F1 ++ F2' ++ F3) := by
  cases t with
  | agg t =>
    cases s with
    | fld i =>
      have hg : getF t (some x) i = some y := by cases t <;> exact hg
      obtain ⟨o, pre, mid, post, G1, G2, G3, ho, hc, hl, hF, hm, hset⟩ := getF_rel t x i y v cs F hg hv h
      refine ⟨o, pre, mid, post, G1, G2, G3, ?_, hc, hl, hF, hm, fun w' B' hws hwB hwF u z mid' F2' r k hz hs hk => ?_⟩
      · cases t <;> exact ho
      · have hs : (setF t (some x) i ⟨u, some z⟩).map (fun z => (⟨.agg z.ty, z.val⟩ : ODyn)) = some r := by cases t <;> exact hs
        cases hb : setF t (some x) i ⟨u, some z⟩ with
        | none => rw [hb] at hs; cases hs
        | some r' =>
          rw [hb] at hs
          simp only [Option.map_some, Option.some.injEq] at hs
          subst hs
          exact hset w' B' hws hwB hwF u z mid' F2' r' k hz hb hk
    | idx i =>
      cases t with
      | arr n e =>
        simp only [getS, Option.bind_some, Option.some.injEq] at hg
        subst hg
        obtain ⟨h0, hi⟩ := rdI_some hv
        obtain ⟨hn, h⟩ := h
        obtain ⟨c1, c2, c3, F1, F2, F3, hc, hF, hl, h2, hset⟩ := RelL_split (fun x cs F h => Rel_length w B e x cs F h) _ cs F i.toNat v h hi
        refine ⟨_, c1, c2, c3, F1, F2, F3, rfl, hc, hl, hF, h2, fun w' B' hws hwB hwF u z mid' F2' r k hz hs hk => ?_⟩
        simp only [setS] at hs
        split at hs
        · rename_i hu
          have hu : u = e := hu
          subst hu
          simp only [Option.some.injEq] at hs
          subst hs
          simp only [Option.bind_some] at hk
          obtain ⟨_, _, rfl⟩ := stI_some hk
          exact ⟨by simpa using hn, hset _ z mid' F2' (fun x cs F h hb => Rel_same hws hwB _ _ _ _ h (fun b hb' => hwF b (hb b hb'))) hz⟩
        · cases hs
      | _ => simp [getS] at hg
  | _ => cases s <;> simp [getS] at hg

theorem getF_none : ∀ (t : Ty) (i : Nat) (y : ODyn), getF t none i = some y → y.val = none
  | .pair a _, 0, y, h => by simp only [getF, Option.some.injEq] at h; subst h; rfl
  | .pair _ b, i + 1, y, h => getF_none b i y (by simpa only [getF, Option.map_none] using h)
  | .int _, _, _, h => by simp [getF] at h
  | .bool, _, _, h => by simp [getF] at h
  | .str, _, _, h => by simp [getF] at h
  | .unit, _, _, h => by simp [getF] at h
  | .agg _, _, _, h => by simp [getF] at h
  | .arr _ _, _, _, h => by simp [getF] at h
  | .slice _, _, _, h => by simp [getF] at h
  | .own _, _, _, h => by simp [getF] at h
  | .app _, _, _, h => by simp [getF] at h
  | .junk, _, _, h => by simp [getF] at h
  | .ptr _, _, _, h => by simp [getF] at h
  | .box _, _, _, h => by simp [getF] at h
  | .nils _, _, _, h => by simp [getF] at h
  | .nilp, _, _, h => by simp [getF] at h
  | .nili, _, _, h => by simp [getF] at h
  | .alt _ _ _, _, _, h => by simp [getF] at h

theorem getS_none (t : Ty) (s : PS) (y : ODyn) (h : getS ⟨t, none⟩ s = some y) : y.val = none := by
  cases t with
  | agg t =>
    cases s with
    | fld i => exact getF_none t i y (by cases t <;> exact h)
    | idx i =>
      cases t with
      | arr n e => simp only [getS, Option.some.injEq] at h; subst h; rfl
      | _ => simp [getS] at h
  | _ => cases s <;> simp [getS] at h

theorem getP_none : ∀ (p : Path) (t : Ty) (y : ODyn), getP ⟨t, none⟩ p = some y → y.val = none
  | [], t, y, h => by simp only [getP, Option.some.injEq] at h; subst h; rfl
  | s :: p, t, y, h => by
    simp only [getP] at h
    cases hs : getS ⟨t, none⟩ s with
    | none => rw [hs] at h; cases h
    | some z =>
      rw [hs] at h
      have hz := getS_none t s z hs
      obtain ⟨u, v⟩ := z
      have hz : v = none := hz
      subst hz
      exact getP_none p u y (by simpa using h)

theorem setF_none : ∀ (t : Ty) (x : Option (T t)) (i : Nat) (u : Ty) (r : ODyn), setF t x i ⟨u, none⟩ = some r → r.val = none
  | .pair a _, x, 0, u, r, h => by simp only [setF, Option.some.injEq] at h; subst h; cases x <;> rfl
  | .pair a b, x, i + 1, u, r, h => by
    simp only [setF] at h
    cases hb : setF b (x.map (·.2)) i ⟨u, none⟩ with
    | none => rw [hb] at h; cases h
    | some z =>
      rw [hb] at h
      simp only [Option.map_some, Option.some.injEq] at h
      subst h
      have := setF_none b _ i u z hb
      rw [this]
      cases x <;> rfl
  | .int _, _, _, _, _, h => by simp [setF] at h
  | .bool, _, _, _, _, h => by simp [setF] at h
  | .str, _, _, _, _, h => by simp [setF] at h
  | .unit, _, _, _, _, h => by simp [setF] at h
  | .agg _, _, _, _, _, h => by simp [setF] at h
  | .arr _ _, _, _, _, _, h => by simp [setF] at h
  | .slice _, _, _, _, _, h => by simp [setF] at h
  | .own _, _, _, _, _, h => by simp [setF] at h
  | .app _, _, _, _, _, h => by simp [setF] at h
  | .junk, _, _, _, _, h => by simp [setF] at h
  | .ptr _, _, _, _, _, h => by simp [setF] at h
  | .box _, _, _, _, _, h => by simp [setF] at h
  | .nils _, _, _, _, _, h => by simp [setF] at h
  | .nilp, _, _, _, _, h => by simp [setF] at h
  | .nili, _, _, _, _, h => by simp [setF] at h
  | .alt _ _ _, _, _, _, _, h => by simp [setF] at h

theorem setS_none (t : Ty) (x : Option (T t)) (s : PS) (u : Ty) (r : ODyn) (h : setS ⟨t, x⟩ s ⟨u, none⟩ = some r) : r.val = none := by
  cases t with
  | agg t =>
    cases s with
    | fld i =>
      have hs : (setF t x i ⟨u, none⟩).map (fun z => (⟨.agg z.ty, z.val⟩ : ODyn)) = some r := by cases t <;> exact h
      cases hb : setF t x i ⟨u, none⟩ with
      | none => rw [hb] at hs; cases hs
      | some z =>
        rw [hb] at hs
        simp only [Option.map_some, Option.some.injEq] at hs
        subst hs
        exact setF_none t x i u z hb
    | idx i =>
      cases t with
      | arr n e =>
        simp only [setS] at h
        split at h
        · rename_i hu
          have hu : u = e := hu
          subst hu
          simp only [Option.some.injEq] at h
          subst h
          cases x <;> rfl
        · cases h
      | _ => simp [setS] at h
  | _ => cases s <;> simp [setS] at h

theorem getP_rel {w : World} {B : Nat → Prop} : ∀ (p : Path) (t : Ty) (x : T t) (y : ODyn) (v : T y.ty) (cs : List Value) (F : List Nat), getP ⟨t, some x⟩ p = some y → y.val = some v → Rel w B t x cs F →
    ∃ o pre mid post F1 F2 F3, offP t p = some (o, y.ty) ∧ cs = pre ++ mid ++ post ∧ pre.length = o ∧ F = F1 ++ F2 ++ F3 ∧ Rel w B y.ty v mid F2 ∧
      ∀ (w' : World) (B' : Nat → Prop), (∀ b, B b → Same w w' b) → (∀ b, B b → B' b) → (∀ b ∈ F1 ++ F3, Same w w' b) →
      ∀ (u : Ty) (z : T u) mid' F2' (r : ODyn) (k : T r.ty), Rel w' B' u z mid' F2' → setP ⟨t, some x⟩ p ⟨u, some z⟩ = some r → r.val = some k → Rel w' B' r.ty k (pre ++ mid' ++ post) (F1 ++ F2' ++ F3)
  | [], t, x, y, v, cs, F, hg, hv, h => by
    simp only [getP, Option.some.injEq] at hg
    subst hg
    obtain rfl := Option.some.inj hv
    refine ⟨0, [], cs, [], [], F, [], rfl, by simp, rfl, by simp, h, fun w' B' hws hwB hwF u z mid' F2' r k hz hs hk => ?_⟩
    simp only [setP, Option.some.injEq] at hs
    subst hs
    obtain rfl := Option.some.inj hk
    simpa using hz
  | s :: p, t, x, y, v, cs, F, hg, hv, h => by
    simp only [getP] at hg
    cases hs : getS ⟨t, some x⟩ s with
    | none => rw [hs] at hg; cases hg
    | some y1 =>
      rw [hs] at hg
      simp only [Option.bind_some] at hg
      obtain ⟨t1, v1⟩ := y1
      cases v1 with
      | none =>
        rw [getP_none p t1 y hg] at hv
        cases hv
      | some v1 =>
        obtain ⟨o, pre, mid, post, F1, F2, F3, ho, rfl, hl, rfl, hm, hset⟩ := getS_rel t x s ⟨t1, some v1⟩ v1 cs F hs rfl h
        obtain ⟨o', pre', mid', post', F1', F2', F3', ho', rfl, hl', rfl, hm', hset'⟩ := getP_rel p t1 v1 y v mid F2 hg hv hm
        refine ⟨o + o', pre ++ pre', mid', post' ++ post, F1 ++ F1', F2', F3' ++ F3, by simp [offP, ho, ho'], by simp, by simp [hl, hl'], by simp, hm', fun w' B' hws hwB hwF u z md Fd r k hz hs2 hk => ?_⟩
        simp only [setP, hs, Option.bind_some] at hs2
        cases hb : setP ⟨t1, some v1⟩ p ⟨u, some z⟩ with
        | none => rw [hb] at hs2; cases hs2
        | some r1 =>
          rw [hb] at hs2
          simp only [Option.bind_some] at hs2
          obtain ⟨tr, vr⟩ := r1
          cases vr with
          | none => rw [setS_none t (some x) s tr r hs2] at hk; cases hk
          | some vr =>
            have := hset w' B' hws hwB (fun b hb => hwF b (by rcases List.mem_append.1 hb with hb | hb <;> simp [hb])) tr vr _ _ r k
              (hset' w' B' hws hwB (fun b hb => hwF b (by rcases List.mem_append.1 hb with hb | hb <;> simp [hb])) u z md Fd ⟨tr, some vr⟩ vr hz hb rfl) hs2 hk
            simpa using this

/-! ### how things lie in cells -/
theorem sk_size : ∀ t : Ty, (sk t).size = t.size
  | .pair a b => by simp [sk, Ty.size, sk_size a, sk_size b]
  | .agg a => sk_size a
  | .arr n e => by simp [sk, Ty.size, sk_size e]
  | .int _ | .bool | .str | .unit | .slice _ | .own _ | .app _ | .junk | .ptr _ | .box _ | .nils _ | .nilp | .nili | .alt _ _ _ => rfl

theorem sk_agg (t : Ty) : (sk t).isAgg = t.isAgg := by cases t <;> rfl

theorem size_of_sk {t u : Ty} (h : sk t = sk u) : t.size = u.size := by rw [← sk_size t, ← sk_size u, h]
theorem agg_of_sk {t u : Ty} (h : sk t = sk u) : t.isAgg = u.isAgg := by rw [← sk_agg t, ← sk_agg u, h]

theorem offF_sk : ∀ (t : Ty) (i o : Nat) (u : Ty), offF t i = some (o, u) → offF (sk t) i = some (o, sk u)
  | .pair a b, 0, o, u, h => by simp only [offF, Option.some.injEq, Prod.mk.injEq] at h; obtain ⟨rfl, rfl⟩ := h; rfl
  | .pair a b, i + 1, o, u, h => by
    simp only [offF] at h
    cases hb : offF b i with
    | none => rw [hb] at h; cases h
    | some r =>
      rw [hb] at h
      simp only [Option.map_some, Option.some.injEq, Prod.mk.injEq] at h
      obtain ⟨rfl, rfl⟩ := h
      simp [sk, offF, offF_sk b i r.1 r.2 hb, sk_size]
  | .int _, _, _, _, h => by simp [offF] at h
  | .bool, _, _, _, h => by simp [offF] at h
  | .str, _, _, _, h => by simp [offF] at h
  | .unit, _, _, _, h => by simp [offF] at h
  | .agg _, _, _, _, h => by simp [offF] at h
  | .arr _ _, _, _, _, h => by simp [offF] at h
  | .slice _, _, _, _, h => by simp [offF] at h
  | .own _, _, _, _, h => by simp [offF] at h
  | .app _, _, _, _, h => by simp [offF] at h
  | .junk, _, _, _, h => by simp [offF] at h
  | .ptr _, _, _, _, h => by simp [offF] at h
  | .box _, _, _, _, h => by simp [offF] at h
  | .nils _, _, _, _, h => by simp [offF] at h
  | .nilp, _, _, _, h => by simp [offF] at h
  | .nili, _, _, _, h => by simp [offF] at h
  | .alt _ _ _, _, _, _, h => by simp [offF] at h

theorem offS_fld (t : Ty) (i : Nat) : offS (.agg t) (.fld i) = offF t i := by cases t <;> rfl

theorem offS_sk (t : Ty) (s : PS) (o : Nat) (u : Ty) (h : offS t s = some (o, u)) : offS (sk t) s = some (o, sk u) := by
  cases t with
  | agg t =>
    cases s with
    | fld i => rw [offS_fld] at h; simp only [sk, offS_fld]; exact offF_sk t i o u h
    | idx i =>
      cases t with
      | arr n e =>
        simp only [offS, Option.some.injEq, Prod.mk.injEq] at h
        obtain ⟨rfl, rfl⟩ := h
        simp [sk, offS, sk_size]
      | _ => simp [offS] at h
  | _ => cases s <;> simp [offS] at h

theorem offP_sk : ∀ (p : Path) (t : Ty) (o : Nat) (u : Ty), offP t p = some (o, u) → offP (sk t) p = some (o, sk u)
  | [], t, o, u, h => by simp only [offP, Option.some.injEq, Prod.mk.injEq] at h; obtain ⟨rfl, rfl⟩ := h; rfl
  | s :: p, t, o, u, h => by
    simp only [offP] at h
    cases hs : offS t s with
    | none => rw [hs] at h; cases h
    | some r =>
      rw [hs] at h
      simp only [Option.bind_some] at h
      cases hp : offP r.2 p with
      | none => rw [hp] at h; cases h
      | some q =>
        rw [hp] at h
        simp only [Option.map_some, Option.some.injEq, Prod.mk.injEq] at h
        obtain ⟨rfl, rfl⟩ := h
        simp [offP, offS_sk t s r.1 r.2 hs, offP_sk p r.2 q.1 q.2 hp]

theorem offF_back : ∀ (t : Ty) (i o : Nat) (v : Ty), offF (sk t) i = some (o, v) → ∃ u, offF t i = some (o, u) ∧ sk u = v
  | .pair a b, 0, o, u, h => by simp only [sk, offF, Option.some.injEq, Prod.mk.injEq] at h; obtain ⟨rfl, rfl⟩ := h; exact ⟨a, rfl, rfl⟩
  | .pair a b, i + 1, o, u, h => by
    simp only [sk, offF] at h
    cases hb : offF (sk b) i with
    | none => rw [hb] at h; cases h
    | some r =>
      rw [hb] at h
      simp only [Option.map_some, Option.some.injEq, Prod.mk.injEq] at h
      obtain ⟨rfl, rfl⟩ := h
      obtain ⟨u, h1, h2⟩ := offF_back b i r.1 r.2 hb
      exact ⟨u, by simp [offF, h1, sk_size], h2⟩
  | .int _, _, _, _, h => by simp [sk, offF] at h
  | .bool, _, _, _, h => by simp [sk, offF] at h
  | .str, _, _, _, h => by simp [sk, offF] at h
  | .unit, _, _, _, h => by simp [sk, offF] at h
  | .agg _, _, _, _, h => by simp [sk, offF] at h
  | .arr _ _, _, _, _, h => by simp [sk, offF] at h
  | .slice _, _, _, _, h => by simp [sk, offF] at h
  | .own _, _, _, _, h => by simp [sk, offF] at h
  | .app _, _, _, _, h => by simp [sk, offF] at h
  | .junk, _, _, _, h => by simp [sk, offF] at h
  | .ptr _, _, _, _, h => by simp [sk, offF] at h
  | .box _, _, _, _, h => by simp [sk, offF] at h
  | .nils _, _, _, _, h => by simp [sk, offF] at h
  | .nilp, _, _, _, h => by simp [sk, offF] at h
  | .nili, _, _, _, h => by simp [sk, offF] at h
  | .alt _ _ _, _, _, _, h => by simp [sk, offF] at h

theorem offS_back (t : Ty) (s : PS) (o : Nat) (v : Ty) (h : offS (sk t) s = some (o, v)) : ∃ u, offS t s = some (o, u) ∧ sk u = v := by
  cases t with
  | agg t =>
    cases s with
    | fld i => simp only [sk, offS_fld] at h ⊢; exact offF_back t i o v h
    | idx i =>
      cases t with
      | arr n e =>
        simp only [sk, offS, Option.some.injEq, Prod.mk.injEq] at h
        obtain ⟨rfl, rfl⟩ := h
        exact ⟨e, by simp [offS, sk_size], rfl⟩
      | _ => simp [sk, offS] at h
  | _ => cases s <;> simp [sk, offS] at h

theorem offP_back : ∀ (p : Path) (t : Ty) (o : Nat) (v : Ty), offP (sk t) p = some (o, v) → ∃ u, offP t p = some (o, u) ∧ sk u = v
  | [], t, o, v, h => by simp only [offP, Option.some.injEq, Prod.mk.injEq] at h; obtain ⟨rfl, rfl⟩ := h; exact ⟨t, rfl, rfl⟩
  | s :: p, t, o, v, h => by
    simp only [offP] at h
    cases hs : offS (sk t) s with
    | none => rw [hs] at h; cases h
    | some r =>
      rw [hs] at h
      simp only [Option.bind_some] at h
      obtain ⟨u, h1, h2⟩ := offS_back t s r.1 r.2 hs
      cases hp : offP r.2 p with
      | none => rw [hp] at h; cases h
      | some q =>
        rw [hp] at h
        simp only [Option.map_some, Option.some.injEq, Prod.mk.injEq] at h
        obtain ⟨rfl, rfl⟩ := h
        rw [← h2] at hp
        obtain ⟨u', h3, h4⟩ := offP_back p u q.1 q.2 hp
        exact ⟨u', by simp [offP, h1, h3], h4⟩

/-- a path leads to the same cells in all kinds that lie alike -/
theorem offP_alike {t t' : Ty} {p : Path} {o : Nat} {u : Ty} (h : offP t p = some (o, u)) (hs : sk t' = sk t) : ∃ u', offP t' p = some (o, u') ∧ sk u' = sk u := by
  have := offP_sk p t o u h
  rw [← hs] at this
  exact offP_back p t' o (sk u) this

theorem offP_append : ∀ (p q : Path) (t : Ty), offP t (p ++ q) = (offP t p).bind fun r => (offP r.2 q).map fun z => (r.1 + z.1, z.2)
  | [], q, t => by
    simp only [List.nil_append, offP, Option.bind_some, Nat.zero_add]
    cases offP t q <;> rfl
  | s :: p, q, t => by
    simp only [List.cons_append, offP]
    cases offS t s with
    | none => rfl
    | some r =>
      simp only [Option.bind_some]
      rw [offP_append p q r.2]
      cases offP r.2 p with
      | none => rfl
      | some z =>
        simp only [Option.bind_some, Option.map_some]
        cases offP z.2 q <;> simp [Nat.add_assoc]

theorem getF_off : ∀ (t : Ty) (x : Option (T t)) (i : Nat) (y : ODyn), getF t x i = some y → ∃ o, offF t i = some (o, y.ty)
  | .pair a b, x, 0, y, h => by simp only [getF, Option.some.injEq] at h; subst h; exact ⟨0, rfl⟩
  | .pair a b, x, i + 1, y, h => by
    obtain ⟨o, ho⟩ := getF_off b _ i y (by simpa only [getF] using h)
    exact ⟨a.size + o, by simp [offF, ho]⟩
  | .int _, _, _, _, h => by simp [getF] at h
  | .bool, _, _, _, h => by simp [getF] at h
  | .str, _, _, _, h => by simp [getF] at h
  | .unit, _, _, _, h => by simp [getF] at h
  | .agg _, _, _, _, h => by simp [getF] at h
  | .arr _ _, _, _, _, h => by simp [getF] at h
  | .slice _, _, _, _, h => by simp [getF] at h
  | .own _, _, _, _, h => by simp [getF] at h
  | .app _, _, _, _, h => by simp [getF] at h
  | .junk, _, _, _, h => by simp [getF] at h
  | .ptr _, _, _, _, h => by simp [getF] at h
  | .box _, _, _, _, h => by simp [getF] at h
  | .nils _, _, _, _, h => by simp [getF] at h
  | .nilp, _, _, _, h => by simp [getF] at h
  | .nili, _, _, _, h => by simp [getF] at h
  | .alt _ _ _, _, _, _, h => by simp [getF] at h

theorem getS_off (d : ODyn) (s : PS) (y : ODyn) (h : getS d s = some y) : ∃ o, offS d.ty s = some (o, y.ty) := by
  obtain ⟨t, x⟩ := d
  cases t with
  | agg t =>
    cases s with
    | fld i =>
      have h : getF t x i = some y := by cases t <;> exact h
      show ∃ o, offS (.agg t) (.fld i) = _
      rw [offS_fld]; exact getF_off t x i y h
    | idx i =>
      cases t with
      | arr n e => simp only [getS, Option.some.injEq] at h; subst h; exact ⟨_, rfl⟩
      | _ => simp [getS] at h
  | _ => cases s <;> simp [getS] at h

theorem getP_off : ∀ (p : Path) (d y : ODyn), getP d p = some y → ∃ o, offP d.ty p = some (o, y.ty)
  | [], d, y, h => by simp only [getP, Option.some.injEq] at h; subst h; exact ⟨0, rfl⟩
  | s :: p, d, y, h => by
    simp only [getP] at h
    cases hs : getS d s with
    | none => rw [hs] at h; cases h
    | some z =>
      rw [hs] at h
      obtain ⟨o, ho⟩ := getS_off d s z hs
      obtain ⟨o', ho'⟩ := getP_off p z y (by simpa using h)
      exact ⟨o + o', by simp [offP, ho, ho']⟩

theorem setF_sk : ∀ (t : Ty) (x : Option (T t)) (i : Nat) (y z r : ODyn), getF t x i = some y → setF t x i z = some r → sk z.ty = sk y.ty → sk r.ty = sk t
  | .pair a b, x, 0, y, z, r, hg, hs, h => by
    simp only [getF, Option.some.injEq] at hg
    subst hg
    simp only [setF, Option.some.injEq] at hs
    subst hs
    simp only [sk]
    rw [h]
  | .pair a b, x, i + 1, y, z, r, hg, hs, h => by
    simp only [setF] at hs
    cases hb : setF b (x.map (·.2)) i z with
    | none => rw [hb] at hs; cases hs
    | some r' =>
      rw [hb] at hs
      simp only [Option.map_some, Option.some.injEq] at hs
      subst hs
      simp only [sk]
      rw [setF_sk b _ i y z r' (by simpa only [getF] using hg) hb h]
  | .int _, _, _, _, _, _, h, _, _ => by simp [getF] at h
  | .bool, _, _, _, _, _, h, _, _ => by simp [getF] at h
  | .str, _, _, _, _, _, h, _, _ => by simp [getF] at h
  | .unit, _, _, _, _, _, h, _, _ => by simp [getF] at h
  | .agg _, _, _, _, _, _, h, _, _ => by simp [getF] at h
  | .arr _ _, _, _, _, _, _, h, _, _ => by simp [getF] at h
  | .slice _, _, _, _, _, _, h, _, _ => by simp [getF] at h
  | .own _, _, _, _, _, _, h, _, _ => by simp [getF] at h
  | .app _, _, _, _, _, _, h, _, _ => by simp [getF] at h
  | .junk, _, _, _, _, _, h, _, _ => by simp [getF] at h
  | .ptr _, _, _, _, _, _, h, _, _ => by simp [getF] at h
  | .box _, _, _, _, _, _, h, _, _ => by simp [getF] at h
  | .nils _, _, _, _, _, _, h, _, _ => by simp [getF] at h
  | .nilp, _, _, _, _, _, h, _, _ => by simp [getF] at h
  | .nili, _, _, _, _, _, h, _, _ => by simp [getF] at h
  | .alt _ _ _, _, _, _, _, _, h, _, _ => by simp [getF] at h

theorem setS_sk (d : ODyn) (s : PS) (y z r : ODyn) (hg : getS d s = some y) (hs : setS d s z = some r) (h : sk z.ty = sk y.ty) : sk r.ty = sk d.ty := by
  obtain ⟨t, x⟩ := d
  cases t with
  | agg t =>
    cases s with
    | fld i =>
      have hg : getF t x i = some y := by cases t <;> exact hg
      have hs : (setF t x i z).map (fun z => (⟨.agg z.ty, z.val⟩ : ODyn)) = some r := by cases t <;> exact hs
      cases hb : setF t x i z with
      | none => rw [hb] at hs; cases hs
      | some r' =>
        rw [hb] at hs
        simp only [Option.map_some, Option.some.injEq] at hs
        subst hs
        simp only [sk]
        rw [setF_sk t x i y z r' hg hb h]
    | idx i =>
      cases t with
      | arr n e =>
        simp only [setS] at hs
        split at hs
        · simp only [Option.some.injEq] at hs; subst hs; rfl
        · cases hs
      | _ => simp [getS] at hg
  | _ => cases s <;> simp [getS] at hg

theorem setP_sk : ∀ (p : Path) (d y z r : ODyn), getP d p = some y → setP d p z = some r → sk z.ty = sk y.ty → sk r.ty = sk d.ty
  | [], d, y, z, r, hg, hs, h => by
    simp only [getP, Option.some.injEq] at hg; subst hg
    simp only [setP, Option.some.injEq] at hs; subst hs
    exact h
  | s :: p, d, y, z, r, hg, hs, h => by
    simp only [getP] at hg
    simp only [setP] at hs
    cases h1 : getS d s with
    | none => rw [h1] at hg; cases hg
    | some d1 =>
      rw [h1] at hg hs
      simp only [Option.bind_some] at hg hs
      cases h2 : setP d1 p z with
      | none => rw [h2] at hs; cases hs
      | some r1 =>
        rw [h2] at hs
        exact setS_sk d s d1 r1 r h1 hs (setP_sk p d1 y z r1 hg h2 h)

/-! ### parts of plain data are plain data -/
theorem getF_pure : ∀ (t : Ty) (x : Option (T t)) (i : Nat) (y : ODyn), t.pure = true → getF t x i = some y → y.ty.pure = true
  | .pair a b, x, 0, y, hp, h => by
    simp only [Ty.pure, Bool.and_eq_true] at hp
    simp only [getF, Option.some.injEq] at h; subst h; exact hp.1
  | .pair a b, x, i + 1, y, hp, h => by
    simp only [Ty.pure, Bool.and_eq_true] at hp
    exact getF_pure b _ i y hp.2 (by simpa only [getF] using h)
  | .int _, _, _, _, _, h => by simp [getF] at h
  | .bool, _, _, _, _, h => by simp [getF] at h
  | .str, _, _, _, _, h => by simp [getF] at h
  | .unit, _, _, _, _, h => by simp [getF] at h
  | .agg _, _, _, _, _, h => by simp [getF] at h
  | .arr _ _, _, _, _, _, h => by simp [getF] at h
  | .slice _, _, _, _, _, h => by simp [getF] at h
  | .own _, _, _, _, _, h => by simp [getF] at h
  | .app _, _, _, _, _, h => by simp [getF] at h
  | .junk, _, _, _, _, h => by simp [getF] at h
  | .ptr _, _, _, _, _, h => by simp [getF] at h
  | .box _, _, _, _, _, h => by simp [getF] at h
  | .nils _, _, _, _, _, h => by simp [getF] at h
  | .nilp, _, _, _, _, h => by simp [getF] at h
  | .nili, _, _, _, _, h => by simp [getF] at h
  | .alt _ _ _, _, _, _, _, h => by simp [getF] at h

theorem getS_pure (d : ODyn) (s : PS) (y : ODyn) (hp : d.ty.pure = true) (h : getS d s = some y) : y.ty.pure = true := by
  obtain ⟨t, x⟩ := d
  cases t with
  | agg t =>
    cases s with
    | fld i => exact getF_pure t x i y hp (by cases t <;> exact h)
    | idx i =>
      cases t with
      | arr n e => simp only [getS, Option.some.injEq] at h; subst h; exact hp
      | _ => simp [getS] at h
  | _ => cases s <;> simp [getS] at h

theorem getP_pure : ∀ (p : Path) (d y : ODyn), d.ty.pure = true → getP d p = some y → y.ty.pure = true
  | [], d, y, hp, h => by simp only [getP, Option.some.injEq] at h; subst h; exact hp
  | s :: p, d, y, hp, h => by
    simp only [getP] at h
    cases hs : getS d s with
    | none => rw [hs] at h; cases h
    | some z =>
      rw [hs] at h
      exact getP_pure p z y (getS_pure d s z hp hs) (by simpa using h)

end
end Go.Pv
