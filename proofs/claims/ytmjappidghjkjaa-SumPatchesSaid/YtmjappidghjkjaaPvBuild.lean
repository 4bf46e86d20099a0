/- Structs, arrays and rows that are built of given parts and zeros. -/
import Derived.Test.YtmjappidghjkjaaPvMem
namespace Go.Pv
noncomputable section
universe u v

/-! ### parts that are put into a row of cells -/
theorem putCells_list : ∀ (l : List Value) (k off : Nat) (cells : Array Value) (A M Z : List Value), cells.toList = A ++ M ++ Z → A.length = off + k → M.length = l.length →
    ((l.zipIdx k).foldl (fun cs x => cs.setIfInBounds (off + x.2) x.1) cells).toList = A ++ l ++ Z
  | [], k, off, cells, A, M, Z, h, hA, hM => by
    have : M = [] := List.eq_nil_of_length_eq_zero hM
    subst this
    simpa using h
  | c :: l, k, off, cells, A, M, Z, h, hA, hM => by
    cases M with
    | nil => simp at hM
    | cons m M =>
      simp only [List.zipIdx_cons, List.foldl_cons]
      rw [putCells_list l (k + 1) off _ (A ++ [c]) M Z ?_ (by simp; omega) (by simpa using hM)]
      · simp
      · rw [Array.toList_setIfInBounds, h, ← hA]
        simp [List.set_append]

theorem putCells (v : Array Value) (off : Nat) (cells : Array Value) (A M Z : List Value) (h : cells.toList = A ++ M ++ Z) (hA : A.length = off) (hM : M.length = v.size) :
    (v.zipIdx.foldl (fun cs (x : Value × Nat) => cs.setIfInBounds (off + x.2) x.1) cells).toList = A ++ v.toList ++ Z := by
  rw [← Array.foldl_toList, Array.toList_zipIdx]
  exact putCells_list v.toList 0 off cells A M Z h hA (by simpa using hM)

theorem seg_split {ss : List (List Value)} {i : Nat} {s : List Value} (h : ss[i]? = some s) : ss.flatten = (ss.take i).flatten ++ s ++ (ss.drop (i + 1)).flatten := by
  obtain ⟨hi, hs⟩ := List.getElem?_eq_some_iff.1 h
  conv => lhs; rw [← List.take_append_drop i ss, List.drop_eq_getElem_cons hi, hs]
  simp

theorem seg_set {ss : List (List Value)} {i : Nat} {s l : List Value} (h : ss[i]? = some s) : (ss.set i l).flatten = (ss.take i).flatten ++ l ++ (ss.drop (i + 1)).flatten := by
  obtain ⟨hi, hs⟩ := List.getElem?_eq_some_iff.1 h
  rw [List.set_eq_take_append_cons_drop, if_pos hi]
  simp

theorem seg_len {ss : List (List Value)} {i j : Nat} {s l : List Value} (h : ss[i]? = some s) (hl : l.length = s.length) : ((ss.set i l).take j).flatten.length = (ss.take j).flatten.length := by
  simp only [List.length_flatten]
  congr 1
  apply List.ext_getElem?
  intro k
  simp only [List.getElem?_map, List.getElem?_take, List.getElem?_set]
  by_cases hk : k < j
  · simp only [hk, if_true]
    by_cases e : i = k
    · subst e
      obtain ⟨hi, hs⟩ := List.getElem?_eq_some_iff.1 h
      simp [hi, hs, hl]
    · simp [e]
  · simp [hk]

theorem fill_segs (place : Nat → Option (Nat × Nat)) : ∀ (parts : List (Nat × Value)) (cells : Array Value) (ss : List (List Value)), cells.toList = ss.flatten →
    (∀ q ∈ parts, ∃ s, ss[q.1]? = some s ∧ place q.1 = some ((ss.take q.1).flatten.length, s.length) ∧ q.2.cells.size = s.length) →
    ∃ cells', Instr.fill place cells parts = some cells' ∧ cells'.toList = (parts.foldl (fun ss q => ss.set q.1 q.2.cells.toList) ss).flatten
  | [], cells, ss, h, _ => ⟨cells, rfl, h⟩
  | (i, v) :: parts, cells, ss, h, hp => by
    obtain ⟨s, hs, hpl, hv⟩ := hp (i, v) (by simp)
    simp only at hs hpl hv
    have hsp := seg_split hs
    have hsz : cells.size = ss.flatten.length := by rw [← h]; simp
    have hput := putCells v.cells (ss.take i).flatten.length cells (ss.take i).flatten s (ss.drop (i + 1)).flatten (by rw [h, hsp]) rfl hv.symm
    rw [← seg_set hs] at hput
    obtain ⟨cells', h1, h2⟩ := fill_segs place parts _ (ss.set i v.cells.toList) hput (by
      intro q hq
      obtain ⟨s', hs', hpl', hv'⟩ := hp q (by simp [hq])
      by_cases e : i = q.1
      · have hs2 : ss[q.1]? = some s := e ▸ hs
        rw [hs2] at hs'
        obtain rfl := Option.some.inj hs'
        have hi := (List.getElem?_eq_some_iff.1 hs).1
        refine ⟨v.cells.toList, by rw [← e]; simp [hi], ?_, by simpa [hv] using hv'⟩
        rw [seg_len hs (by simpa using hv), hpl', show s.length = v.cells.toList.length by simpa using hv.symm]
      · refine ⟨s', by rw [List.getElem?_set_ne e]; exact hs', ?_, hv'⟩
        rw [seg_len hs (by simpa using hv), hpl'])
    refine ⟨cells', ?_, h2⟩
    rw [← h1]
    have hlen : (ss.take i).flatten.length + s.length ≤ cells.size := by rw [hsz, hsp, List.length_append, List.length_append]; omega
    generalize (ss.take i).flatten.length = off at *
    show (match place i with | none => none | some (off, size) => _) = _
    rw [hpl]
    show (if _ then none else _) = _
    rw [if_neg (by simp [hv]; omega)]

/-- what a segment is in the end -/
theorem segs_get : ∀ (parts : List (Nat × Value)) (ss : List (List Value)) (i : Nat), (∀ q ∈ parts, q.1 < ss.length) → (parts.map (·.1)).Nodup →
    (parts.foldl (fun ss q => ss.set q.1 q.2.cells.toList) ss)[i]? = match lk i parts with | some v => some v.cells.toList | none => ss[i]?
  | [], _, _, _, _ => rfl
  | (j, v) :: parts, ss, i, hl, hn => by
    simp only [List.map_cons, List.nodup_cons] at hn
    simp only [List.foldl_cons]
    rw [segs_get parts (ss.set j v.cells.toList) i (fun q hq => by simpa using hl q (by simp [hq])) hn.2]
    simp only [lk]
    by_cases e : i = j
    · subst e
      have hnone : lk i parts = none := by
        have key : ∀ (l : List (Nat × Value)), i ∉ l.map (·.1) → lk i l = none := by
          intro l
          induction l with
          | nil => intro _; rfl
          | cons q l ih =>
            obtain ⟨k, u⟩ := q
            intro h
            simp only [List.map_cons, List.mem_cons, not_or] at h
            simp only [lk, beq_ne h.1, cond_false]
            exact ih h.2
        exact key parts hn.1
      rw [hnone]
      have := hl (i, v) (by simp)
      simp at this
      simp [this]
    · have : Nat.beq i j = false := beq_ne e
      simp only [this, cond_false]
      cases lk i parts with
      | some u => rfl
      | none => simp only []; rw [List.getElem?_set_ne (Ne.symm e)]

section
variable {X : Cx} {st : St} {a : Act} {w : World} {B : Nat → Prop} {G : Nat → PG} {E : Operand → Option EV}

/-- slots that are taken one after the other -/
theorem take_congr {L L' : Look} {e : EV} (h : ∀ n, e.hits n false = true → L' n = L n) : e.take L' = e.take L := by
  cases e with
  | at_ n p => simp only [EV.take]; rw [h n (by simp [EV.hits])]
  | _ => rfl

theorem takeAll_congr {L L' : Look} : ∀ (l : List (Nat × EV)), (∀ q ∈ l, ∀ n, q.2.hits n false = true → L' n = L n) → takeAll L' l = takeAll L l
  | [], _ => rfl
  | (i, x) :: r, h => by
    simp only [takeAll]
    rw [take_congr (fun n hn => h (i, x) (by simp) n hn), takeAll_congr r (fun q hq => h q (by simp [hq]))]

/-- pairs of a slot's name and what it holds, and of values -/
def Prs (tv : Nat → Value) (w : World) (B : Nat → Prop) (G : Nat → PG) (L : Look) : List (Nat × EV) → List (Nat × Value) → Prop
  | [], vs => vs = []
  | (i, e) :: l, vs => ∃ v r, vs = (i, v) :: r ∧ EVR tv w B G L e v ∧ Prs tv w B G L l r

def Dat (w : World) (B : Nat → Prop) : List (Nat × Dyn) → List (Nat × Value) → Prop
  | [], vs => vs = []
  | (i, d) :: l, vs => ∃ v r, vs = (i, v) :: r ∧ d.ty.pure = true ∧ VR w B d.ty d.val v [] ∧ Dat w B l r

theorem Prs.of {tv : Nat → Value} {B' : Nat → Prop} {G' : Nat → PG} {L L' : Look} (h : ∀ e v, EVR tv w B G L e v → EVR tv w B' G' L' e v) : ∀ l vs, Prs tv w B G L l vs → Prs tv w B' G' L' l vs
  | [], _, hp => hp
  | (i, e) :: l, _, ⟨v, r, hv, he, hp⟩ => ⟨v, r, hv, h e v he, Prs.of h l r hp⟩

theorem takeAll_ok : ∀ (l : List (Nat × EV)) (vs : List (Nat × Value)) (st : St) (B : Nat → Prop) (G : Nat → PG) (r : List (Nat × Dyn)) (U : Upds), Inv X st a w B G → Prs (tv a) w B G (look st) l vs →
    takeAll (look st) l = some (r, U) → ∃ B' G', Inv X (applyU U st) a w B' G' ∧ Dat w B' r vs ∧ (∀ b, B b → B' b) ∧
      ∀ e' v', EVR (tv a) w B G (look st) e' v' → EVR (tv a) w B' G' (look (applyU U st)) e' v'
  | [], vs, st, B, G, r, U, h, hp, ht => by
    simp only [takeAll, Option.some.injEq, Prod.mk.injEq] at ht
    obtain ⟨rfl, rfl⟩ := ht
    exact ⟨B, G, h, hp, fun _ h => h, fun _ _ h => h⟩
  | (i, x) :: l, vs, st, B, G, r, U, h, hp, ht => by
    simp only [takeAll] at ht
    obtain ⟨⟨y, U1⟩, hy, ht⟩ := bind_some ht
    obtain ⟨v, rv, rfl, he, hp⟩ := hp
    split at ht
    · cases ht
    · rename_i hno
      split at ht
      · rename_i t x1 heq
        have heq : y = ⟨t, some x1⟩ := heq
        subst heq
        obtain ⟨⟨r2, U2⟩, hr2, hz⟩ := Option.map_eq_some_iff.1 ht
        simp only [Prod.mk.injEq] at hz
        obtain ⟨rfl, rfl⟩ := hz
        obtain ⟨B1, G1, hI1, hpu, hv1, hB1, _, hE1⟩ := take_ok h he hy rfl
        have hcong : takeAll (look (applyU U1 st)) l = takeAll (look st) l := by
          refine takeAll_congr l fun q hq n hn => ?_
          show lk n (applyU U1 st).pl = lk n st.pl
          refine applyU_pl_other U1 st n fun hm => ?_
          obtain ⟨u, hu, rfl⟩ := List.mem_map.1 hm
          refine hno ?_
          rw [List.any_eq_true]
          exact ⟨u, hu, List.any_eq_true.2 ⟨q, hq, hn⟩⟩
        obtain ⟨B2, G2, hI2, hd2, hB2, hE2⟩ := takeAll_ok l rv (applyU U1 st) B1 G1 r2 U2 hI1 (Prs.of hE1 l rv hp) (by rw [hcong]; exact hr2)
        refine ⟨B2, G2, by rw [applyU_append]; exact hI2, ⟨v, rv, rfl, hpu, hv1.same (fun _ _ => rfl) hB2 (by simp), hd2⟩, fun b hb => hB2 b (hB1 b hb), fun e' v' h' => ?_⟩
        rw [applyU_append]
        exact hE2 e' v' (hE1 e' v' h')
      · cases ht

theorem mapM_prs {F : Nat × Operand → Option (Nat × EV)} (hF : ∀ q z, F q = some z → z.1 = q.1 ∧ EVR (tv a) w B G (look st) z.2 (a.eval q.2)) : ∀ (ps : List (Nat × Operand)) (xs : List (Nat × EV)), ps.mapM F = some xs →
    Prs (tv a) w B G (look st) xs (ps.map fun q => (q.1, a.eval q.2))
  | [], xs, h => by
    simp only [List.mapM_nil] at h
    obtain rfl := Option.some.inj h
    rfl
  | q :: ps, xs, h => by
    rw [List.mapM_cons] at h
    obtain ⟨z, hz, h⟩ := bind_some h
    obtain ⟨zs, hzs, h⟩ := bind_some h
    obtain rfl := Option.some.inj h
    obtain ⟨h1, h2⟩ := hF q z hz
    obtain ⟨i, e⟩ := z
    have h1 : i = q.1 := h1
    subst h1
    exact ⟨a.eval q.2, _, rfl, h2, mapM_prs hF ps zs hzs⟩

theorem Dat.lk {r : List (Nat × Dyn)} {vs : List (Nat × Value)} (h : Dat w B r vs) (i : Nat) : match Pv.lk i r with
    | some d => ∃ v, Pv.lk i vs = some v ∧ d.ty.pure = true ∧ VR w B d.ty d.val v []
    | none => Pv.lk i vs = none := by
  induction r generalizing vs with
  | nil => have h : vs = [] := h; subst h; rfl
  | cons q r ih =>
    obtain ⟨j, d⟩ := q
    obtain ⟨v, rv, rfl, hp, hv, h⟩ := h
    have ih := ih h
    simp only [Pv.lk]
    cases hb : Nat.beq i j with
    | true => exact ⟨v, rfl, hp, hv⟩
    | false => exact ih

theorem Dat.fst {r : List (Nat × Dyn)} {vs : List (Nat × Value)} (h : Dat w B r vs) : vs.map (·.1) = r.map (·.1) := by
  induction r generalizing vs with
  | nil => have h : vs = [] := h; subst h; rfl
  | cons q r ih =>
    obtain ⟨v, rv, rfl, hp, hv, h⟩ := h
    simp [ih h]

theorem Dat.mem {r : List (Nat × Dyn)} {vs : List (Nat × Value)} (h : Dat w B r vs) : ∀ q ∈ vs, ∃ d, (q.1, d) ∈ r ∧ d.ty.pure = true ∧ VR w B d.ty d.val q.2 [] := by
  induction r generalizing vs with
  | nil => have h : vs = [] := h; subst h; intro q hq; cases hq
  | cons p r ih =>
    obtain ⟨j, d⟩ := p
    obtain ⟨v, rv, rfl, hp, hv, h⟩ := h
    intro q hq
    rcases List.mem_cons.1 hq with rfl | hq
    · exact ⟨d, by simp, hp, hv⟩
    · obtain ⟨d', h1, h2⟩ := ih h q hq
      exact ⟨d', by simp [h1], h2⟩

theorem nodupK_ok : ∀ (r : List (Nat × Dyn)), nodupK r = true → (r.map (·.1)).Nodup
  | [], _ => by simp
  | q :: r, h => by
    simp only [nodupK, Bool.and_eq_true, Bool.not_eq_true'] at h
    simp only [List.map_cons, List.nodup_cons]
    refine ⟨fun hm => ?_, nodupK_ok r h.2⟩
    obtain ⟨p, hp, he⟩ := List.mem_map.1 hm
    have := List.any_eq_false.1 h.1 p hp
    rw [he] at this
    simp at this

/-! ### structs -/
theorem laid_ok {P : Program} : ∀ (fs : List Field) (off : Nat) (zk : Ty) (cs : List Value), laid P off fs zk = true → Rel w B zk (dflt zk) cs [] →
    ∃ ss : List (List Value), cs = ss.flatten ∧ ss.length = fs.length ∧
      (∀ i f, fs[i]? = some f → ∃ s t, ss[i]? = some s ∧ f.offset = off + (ss.take i).flatten.length ∧ sizeOk P f.type t = true ∧ t.size = s.length) ∧
      ∀ (i0 : Nat) (g : Nat → Option Dyn) (y : Dyn), bldF g i0 zk = some y → (∀ i s d, ss[i]? = some s → g (i0 + i) = some d → d.ty.size = s.length) ∧ ∀ ss' : List (List Value), ss'.length = fs.length →
        (∀ i, i < fs.length → match g (i0 + i) with | some d => ∃ c, ss'[i]? = some c ∧ Rel w B d.ty d.val c [] | none => ss'[i]? = ss[i]?) → Rel w B y.ty y.val ss'.flatten []
  | [], off, zk, cs, hl, hR => by
    cases zk with
    | unit =>
      refine ⟨[], hR.1, rfl, by simp, fun i0 g y hy => ⟨by simp, fun ss' hs _ => ?_⟩⟩
      obtain rfl := Option.some.inj hy
      have : ss' = [] := List.eq_nil_of_length_eq_zero hs
      subst this
      exact ⟨rfl, rfl⟩
    | _ => cases hl
  | f :: fs, off, zk, cs, hl, hR => by
    cases zk with
    | pair x y =>
      simp only [laid, Bool.and_eq_true] at hl
      obtain ⟨c1, c2, F1, F2, rfl, hF, h1, h2⟩ := hR
      obtain ⟨rfl, rfl⟩ := List.append_eq_nil_iff.1 hF.symm
      have hc1 := Rel_length w B _ _ _ _ h1
      obtain ⟨ss, rfl, hlen, hpl, hb⟩ := laid_ok fs (off + x.size) y c2 hl.2 h2
      refine ⟨c1 :: ss, by simp, by simp [hlen], ?_, ?_⟩
      · intro i f' hi
        cases i with
        | zero =>
          obtain rfl : f = f' := by simpa using hi
          exact ⟨c1, x, rfl, by simpa using Nat.eq_of_beq_eq_true hl.1.1, hl.1.2, hc1.symm⟩
        | succ i =>
          obtain ⟨s, t, k1, k2, k3, k4⟩ := hpl i f' (by simpa using hi)
          exact ⟨s, t, by simpa using k1, by rw [k2, List.take_succ_cons, List.flatten_cons, List.length_append, hc1, Nat.add_assoc], k3, k4⟩
      · intro i0 g z hz
        simp only [bldF] at hz
        obtain ⟨y0, hy0, hz⟩ := bind_some hz
        obtain ⟨z1, hz1, rfl⟩ := Option.map_eq_some_iff.1 hz
        obtain ⟨hb1, hb2⟩ := hb (i0 + 1) g z1 hz1
        refine ⟨fun i s d hs hd => ?_, fun ss' hs' hss => ?_⟩
        · cases i with
          | zero =>
            obtain rfl : c1 = s := by simpa using hs
            rw [show i0 + 0 = i0 from rfl] at hd
            rw [hd] at hy0
            simp only at hy0
            split at hy0
            · rename_i he
              rw [hc1]; exact Nat.eq_of_beq_eq_true he
            · cases hy0
          | succ i => exact hb1 i s d (by simpa using hs) (by rw [← hd]; congr 1; omega)
        · cases ss' with
          | nil => simp at hs'
          | cons c' ss' =>
            have h0 := hss 0 (by simp)
            have hrest := hb2 ss' (by simpa using hs') (fun i hi => by
              have := hss (i + 1) (by simpa using hi)
              rw [show i0 + (i + 1) = i0 + 1 + i by omega] at this
              simpa using this)
            refine ⟨c', ss'.flatten, [], [], by simp, rfl, ?_, hrest⟩
            rw [show i0 + 0 = i0 from rfl] at h0
            cases hg : g i0 with
            | some d =>
              rw [hg] at h0 hy0
              simp only at h0 hy0
              split at hy0
              · obtain rfl := Option.some.inj hy0
                obtain ⟨c, hc, hr⟩ := h0
                obtain rfl : c' = c := by simpa using hc
                exact hr
              · cases hy0
            | none =>
              rw [hg] at h0 hy0
              simp only at h0 hy0
              obtain rfl := Option.some.inj hy0
              obtain rfl : c' = c1 := by simpa using h0
              exact h1
    | _ => cases hl

/-! ### rows of elements -/
theorem bldL_ok {e : Ty} {z : Option (T e)} {g : Nat → Option Dyn} : ∀ (n i0 : Nat) (l : List (T e)), bldL e z g i0 n = some l → l.length = n ∧ (∀ i d, i < n → g (i0 + i) = some d → d.ty = e) ∧
    ∀ ss' : List (List Value), ss'.length = n →
      (∀ i, i < n → match g (i0 + i) with | some d => ∃ c, ss'[i]? = some c ∧ Rel w B d.ty d.val c [] | none => ∀ zv, z = some zv → ∃ c, ss'[i]? = some c ∧ Rel w B e zv c []) → RelL (Rel w B e) l ss'.flatten []
  | 0, i0, l, h => by
    obtain rfl := Option.some.inj h
    refine ⟨rfl, by intro i d hi; omega, fun ss' hs _ => ?_⟩
    have : ss' = [] := List.eq_nil_of_length_eq_zero hs
    subst this
    exact ⟨rfl, rfl⟩
  | n + 1, i0, l, h => by
    simp only [bldL] at h
    obtain ⟨v, hv, h⟩ := bind_some h
    obtain ⟨l', hl', rfl⟩ := Option.map_eq_some_iff.1 h
    obtain ⟨h1, h2, h3⟩ := bldL_ok n (i0 + 1) l' hl'
    refine ⟨by simp [h1], fun i d hi hd => ?_, fun ss' hs' hss => ?_⟩
    · cases i with
      | zero =>
        rw [show i0 + 0 = i0 from rfl] at hd
        rw [hd] at hv
        simp only [Dyn.as] at hv
        split at hv
        · assumption
        · cases hv
      | succ i => exact h2 i d (by omega) (by rw [← hd]; congr 1; omega)
    · cases ss' with
      | nil => simp at hs'
      | cons c' ss' =>
        have h0 := hss 0 (by simp)
        have hrest := h3 ss' (by simpa using hs') (fun i hi => by
          have := hss (i + 1) (by omega)
          rw [show i0 + (i + 1) = i0 + 1 + i by omega] at this
          simpa using this)
        refine ⟨c', ss'.flatten, [], [], by simp, rfl, ?_, hrest⟩
        rw [show i0 + 0 = i0 from rfl] at h0
        cases hg : g i0 with
        | some d =>
          rw [hg] at h0 hv
          simp only at h0 hv
          obtain ⟨c, hc, hr⟩ := h0
          obtain rfl : c' = c := by simpa using hc
          obtain ⟨dt, dv⟩ := d
          simp only [Dyn.as] at hv
          split at hv
          · rename_i he
            have he : dt = e := he
            subst he
            obtain rfl := Option.some.inj hv
            exact hr
          · cases hv
        | none =>
          rw [hg] at h0 hv
          simp only at h0 hv
          obtain ⟨c, hc, hr⟩ := h0 v hv
          obtain rfl : c' = c := by simpa using hc
          exact hr

end
end
end Go.Pv
