/- A plain run of Go code, and that the machine does what it says. -/
import Derived.Shelf.SlSortCmp.NoneTotal
import Derived.Test.YtnaclmcmicckeaaQ7

set_option linter.unusedSimpArgs false
set_option linter.unusedVariables false

namespace Go.Pv
open Go.Proofs Go.Shelf Go.RowKit Go.Lib Go.Sort
noncomputable section

def flatT : Ty → Bool
 | .int _ | .unit => true
 | .pair a b => flatT a && flatT b
 | .agg a => flatT a
 | _ => false

def encF : (t : Ty) → T t → List Value
 | .int k, n => [.int k n]
 | .pair a b, x => encF a x.1 ++ encF b x.2
 | .agg a, x => encF a x
 | _, _ => []

theorem rel_flat {w : World} {B : Nat → Prop} : ∀ (t : Ty) (x : T t) (cs : List Value) (F : List Nat), flatT t = true → (Rel w B t x cs F ↔ cs = encF t x ∧ Wf t x ∧ F = [])
 | .int k, n, cs, F, _ => Iff.rfl
 | .unit, x, cs, F, _ => ⟨fun h => ⟨h.1, trivial, h.2⟩, fun h => ⟨h.1, h.2.2⟩⟩
 | .agg a, x, cs, F, h => rel_flat a x cs F h
 | .pair a b, x, cs, F, h => by
  simp only [flatT, Bool.and_eq_true] at h
  constructor
  ·rintro ⟨c1, c2, F1, F2, rfl, rfl, h1, h2⟩
   obtain ⟨rfl, k1, rfl⟩ := (rel_flat a x.1 _ _ h.1).1 h1
   obtain ⟨rfl, k2, rfl⟩ := (rel_flat b x.2 _ _ h.2).1 h2
   exact ⟨rfl, ⟨k1, k2⟩, rfl⟩
  ·rintro ⟨rfl, ⟨k1, k2⟩, rfl⟩
   exact ⟨_, _, [], [], rfl, rfl, (rel_flat a x.1 _ _ h.1).2 ⟨rfl, k1, rfl⟩, (rel_flat b x.2 _ _ h.2).2 ⟨rfl, k2, rfl⟩⟩

theorem flat_pure : ∀ t : Ty, flatT t = true → t.pure = true
 | .int _, _ | .unit, _ => rfl
 | .agg a, h => flat_pure a h
 | .pair a b, h => by
  simp only [flatT, Bool.and_eq_true] at h
  simp only [Ty.pure, flat_pure a h.1, flat_pure b h.2, Bool.and_self]

theorem encF_len : ∀ (t : Ty) (x : T t), flatT t = true → (encF t x).length = t.size
 | .int _, _, _ | .unit, _, _ => rfl
 | .agg a, x, h => encF_len a x h
 | .pair a b, x, h => by
  simp only [flatT, Bool.and_eq_true] at h
  simp only [encF, Ty.size, List.length_append, encF_len a x.1 h.1, encF_len b x.2 h.2]

theorem encF_one : ∀ (t : Ty) (x : T t), flatT t = true → ∀ v ∈ encF t x, v.oneCell' = true
 | .int _, _, _, v, hv => by
  obtain rfl := List.mem_singleton.1 hv
  rfl
 | .unit, _, _, v, hv => by cases hv
 | .agg a, x, h, v, hv => encF_one a x h v hv
 | .pair a b, x, h, v, hv => by
  simp only [flatT, Bool.and_eq_true] at h
  rcases List.mem_append.1 hv with hv | hv
  ·exact encF_one a x.1 h.1 v hv
  ·exact encF_one b x.2 h.2 v hv

theorem rel_flat_list {w : World} {B : Nat → Prop} {t : Ty} (ht : flatT t = true) : ∀ (xs : List (T t)) (cs : List Value) (F : List Nat), RelL (Rel w B t) xs cs F ↔ cs = (xs.map (encF t)).flatten ∧ (∀ x ∈ xs, Wf t x) ∧ F = []
 | [], cs, F => ⟨fun h => ⟨h.1, by simp, h.2⟩, fun h => ⟨h.1, h.2.2⟩⟩
 | x :: xs, cs, F => by
  constructor
  ·rintro ⟨c1, c2, F1, F2, rfl, rfl, h1, h2⟩
   obtain ⟨rfl, k1, rfl⟩ := (rel_flat t x _ _ ht).1 h1
   obtain ⟨rfl, k2, rfl⟩ := (rel_flat_list ht xs _ _).1 h2
   refine ⟨rfl, fun y hy => ?_, rfl⟩
   rcases List.mem_cons.1 hy with rfl | hy
   ·exact k1
   ·exact k2 y hy
  ·rintro ⟨rfl, k, rfl⟩
   exact ⟨_, _, [], [], rfl, rfl, (rel_flat t x _ _ ht).2 ⟨rfl, k x (by simp), rfl⟩, (rel_flat_list ht xs _ _).2 ⟨rfl, fun y hy => k y (by simp [hy]), rfl⟩⟩

theorem flatten_get {β : Type} {k : Nat} : ∀ (l : List (List β)), (∀ x ∈ l, x.length = k) → ∀ t, t < l.length * k → l.flatten[t]? = (l.getD (t / k) [])[t % k]?
 | [], _, t, h => by simp at h
 | x :: l, hl, t, h => by
  have hx := hl x (by simp)
  have hk : 0 < k := by
   rcases Nat.eq_zero_or_pos k with h0 | h0
   ·rw [h0] at h; simp at h
   ·exact h0
  rw [List.flatten_cons]
  by_cases ht : t < k
  ·rw [List.getElem?_append_left (by omega), Nat.div_eq_of_lt ht, Nat.mod_eq_of_lt ht]
   rfl
  ·rw [List.length_cons, Nat.add_mul] at h
   rw [List.getElem?_append_right (by omega), hx, flatten_get l (fun y hy => hl y (by simp [hy])) (t - k) (by omega)]
   have e1 : t / k = (t - k) / k + 1 := by
    have : t = (t - k) + k := by omega
    conv => lhs; rw [this]
    exact Nat.add_div_right _ hk
   have e2 : t % k = (t - k) % k := by
    have : t = (t - k) + k := by omega
    conv => lhs; rw [this]
    exact Nat.add_mod_right _ _
   rw [e1, e2, List.getD_cons_succ]

section
variable {α : Type} [Inhabited α]

theorem flatK_list {enc : α → List Value} {k : Nat} (hk : ∀ x, (enc x).length = k) (d : Array α) : (flatK enc k d).toList = (d.toList.map enc).flatten := by
 have hlen : (d.toList.map enc).flatten.length = d.size * k := by
  have key : ∀ l : List α, (l.map enc).flatten.length = l.length * k := by
   intro l
   induction l with
   | nil => simp
   | cons x l ih => rw [List.map_cons, List.flatten_cons, List.length_append, ih, hk, List.length_cons, Nat.add_mul]; omega
  rw [key]
  simp
 refine List.ext_getElem (by rw [Array.length_toList, size_flatK, hlen]) fun t h1 h2 => ?_
 have ht : t < d.size * k := by rw [← hlen]; exact h2
 have hk0 : 0 < k := by
  rcases Nat.eq_zero_or_pos k with h0 | h0
  ·rw [h0] at ht; simp at ht
  ·exact h0
 have e1 := get_flatK enc k d t ht
 have hq : t / k < d.size := (Nat.div_lt_iff_lt_mul hk0).2 ht
 have e2 := flatten_get (k := k) (d.toList.map enc) (fun x hx => by
  obtain ⟨y, _, rfl⟩ := List.mem_map.1 hx
  exact hk y) t (by simpa using ht)
 have hr : t % k < k := Nat.mod_lt _ hk0
 have e3 : (d.toList.map enc).getD (t / k) [] = enc d[t / k]! := by
  rw [List.getD_eq_getElem?_getD, List.getElem?_map, List.getElem?_eq_getElem (by simpa using hq)]
  simp [getElem!_pos d (t / k) hq]
 rw [e3, List.getElem?_eq_getElem h2] at e2
 rw [getElem!_pos (flatK enc k d) t (by simpa using ht)] at e1
 rw [Array.getElem_toList, e1]
 rw [List.getElem?_eq_getElem (by rw [hk]; exact hr)] at e2
 rw [getElem!_pos (enc d[t / k]!) (t % k) (by rw [hk]; exact hr)]
 exact (Option.some.inj e2).symm

end

abbrev Elm {e : Ty} (xs : List (T e)) : Type := {x : T e // x ∈ xs}

abbrev cmpE {e : Ty} (F : CmpF e) {xs : List (T e)} (x y : Elm xs) : Int := cmpV F x.1 y.1

theorem SortOk.swo {e : Ty} {F : CmpF e} {xs : List (T e)} (h : SortOk e F xs) : SWO (ltOf (cmpE F (xs := xs))) where
 irrefl x := decide_eq_false (h.irrefl x.1 x.2)
 trans x y z h1 h2 := decide_eq_true (h.trans x.1 y.1 z.1 x.2 y.2 z.2 (of_decide_eq_true h1) (of_decide_eq_true h2))
 ntrans x y z h1 h2 := decide_eq_false (h.ntrans x.1 y.1 z.1 x.2 y.2 z.2 (of_decide_eq_false h1) (of_decide_eq_false h2))

theorem SortOk.tot {e : Ty} {F : CmpF e} {xs : List (T e)} (h : SortOk e F xs) (x y : Elm xs) (h1 : ltOf (cmpE F) x y = false) (h2 : ltOf (cmpE F) y x = false) : x = y :=
 Subtype.ext (h.total x.1 y.1 x.2 y.2 (of_decide_eq_false h1) (of_decide_eq_false h2))

theorem world_grow {w w' : World} (hs : w.heap.size ≤ w'.heap.size) (ht : w'.tape = w.tape) (ho : w'.os = w.os) (hu : w'.output = w.output) (hd : w.drawn ≤ w'.drawn) (h : ∀ b, b < w.heap.size → w'.heap[b]? = w.heap[b]?) :
  ∃ q os, w' = grow (w.drewN q) os := by
 refine ⟨w'.drawn - w.drawn, w'.heap.extract w.heap.size w'.heap.size, ?_⟩
 obtain ⟨h1, t1, d1, o1, u1⟩ := w'
 obtain ⟨h2, t2, d2, o2, u2⟩ := w
 dsimp only at *
 subst ht ho hu
 have e1 : h1 = h2 ++ h1.extract h2.size h1.size := by
  apply Array.ext_getElem?
  intro i
  by_cases hi : i < h2.size
  ·rw [Array.getElem?_append_left hi, h i hi]
  ·rw [Array.getElem?_append_right (by omega), Array.getElem?_extract]
   by_cases hj : i < h1.size
   ·rw [if_pos (by omega)]
    congr 1
    omega
   ·rw [if_neg (by omega), Array.getElem?_eq_none (by omega)]
 unfold grow World.drewN
 dsimp only
 rw [← e1, show d2 + (d1 - d2) = d1 by omega]

theorem cmp_lays {P : Program} {g : Nat} {gn : Func} (hg : P.funcs[g]? = some gn) (hgname : (gn.name == "runtime.NumGoroutine") = false) (hgb : gn.body.isNone = false) {e : Ty} (he : flatT e = true) (ha : e.isAgg = true) {F : CmpF e}
  (hcmp : ContractD true P g (mkSem ⟨[.val e, .val e], [.val (.int .i64)], []⟩ F)) {xs : List (T e)} (hwf : ∀ x ∈ xs, Wf e x) (hsome : ∀ x y, x ∈ xs → y ∈ xs → (F (x, y, ())).isSome = true) [Inhabited (Elm xs)] (blk off size : Nat) (w : World) :
  CmpLays P g #[] (fun x : Elm xs => encF e x.1) e.size (cmpE F) blk off size w := by
 intro m os dk _ x y
 generalize sortWorldK (fun x : Elm xs => encF e x.1) e.size w blk off m dk os = W
 have hp := flat_pure e he
 obtain ⟨r, hr⟩ := Option.isSome_iff_exists.1 (hsome x.1 y.1 x.2 y.2)
 have hrel : ∀ z : Elm xs, VR W (fun b => b < W.heap.size) e z.1 (.agg (encF e z.1).toArray) [] := fun z => by
  refine ⟨(rel_flat e z.1 _ _ he).2 ⟨?_, hwf z.1 z.2, rfl⟩, by rw [ha]; rfl⟩
  show (encF e z.1).toArray.toList = _
  simp
 have hent : Ent W (fun b => b < W.heap.size) [] [] := ⟨fun _ h => h, by simp, by simp, by simp, by simp, by simp [Obs.ob]⟩
 have hm : matchArgs [.val e, .val e] [.val ⟨e, x.1⟩, .val ⟨e, y.1⟩] = some (x.1, y.1, ()) := by
  simp only [matchArgs, hp, if_true, cv_self, Option.bind_some, Option.map_some]
  rfl
 have hc0 := hcmp.call [.val ⟨e, x.1⟩, .val ⟨e, y.1⟩] ⟨[([.val (.int .i64)], [])], F (x.1, y.1, ())⟩ (by simp only [mkSem, mkSemA, hm, Option.map_some]) r hr W (fun b => b < W.heap.size) [] [] [.agg (encF e x.1).toArray, .agg (encF e y.1).toArray] hent
  ⟨_, _, rfl, hp, hrel x, _, _, rfl, hp, hrel y, rfl, rfl, rfl⟩
 have hc := hc0.calls hg hgname hgb
 refine Calls.mono hc fun e' w' h => ?_
 cases e' with
 | panicked c => exact h.elim
 | outgrown => exact h.elim
 | returned v =>
  obtain ⟨B', gs, rs, hL⟩ := h
  have hrs := hL.res
  simp only [resL, RK.rv] at hrs
  obtain ⟨v1, g1, t1, hr1, ⟨_, ⟨⟨hv1, _⟩, hva⟩, _⟩, ht1⟩ := hrs
  have ht1 : t1 = [] := ht1
  subst ht1
  subst hr1
  have hvv := hL.val
  have hvb : v = .int .i64 (cmpE F x y) := by
   simp only at hvv
   rw [hvv]
   have : cmpE F x y = r.1.1 := by unfold cmpE cmpV; rw [hr]
   rw [this]
   exact cells_one hv1 hva
  refine ⟨by rw [hvb], ?_⟩
  exact world_grow hL.size hL.rest.1 hL.rest.2.1 hL.rest.2.2.1 (hL.rest.2.2.2 rfl) fun b hb => hL.old b hb (by simp [Obs.ob])

theorem sort_contract {dr : Bool} {P : Program} {ρ : Ren} (L : SlLaysF0.n6 P ρ) {f g : Nat} (hk : ρ.f 6 = f) {fn : Func} (hf : P.funcs[f]? = some fn) (hname : (fn.name == "runtime.NumGoroutine") = false) (hb : fn.body.isNone = false) {gn : Func} (hg : P.funcs[g]? = some gn)
  (hgname : (gn.name == "runtime.NumGoroutine") = false) (hgb : gn.body.isNone = false) {e : Ty} (he : flatT e = true) (ha : e.isAgg = true) (aE : ∀ w, (isAgg (ρ.t 24)).run P w = .ok true w) (zE : ∀ w, (Go.sizeOf (ρ.t 24)).run P w = .ok e.size w) {F : CmpF e}
  (hcmp : ContractD true P g (mkSem ⟨[.val e, .val e], [.val (.int .i64)], []⟩ F)) : ContractD dr P f (sortSem e g F) := by
 refine ⟨fun avs s hs => (by cases hs), fun z hz => ?_⟩
 obtain rfl := Option.some.inj hz
 intro xs ys hxy w B v Fr hB hFB hO
 have hxy : sortF e F xs = some ys := hxy
 unfold sortF at hxy
 split at hxy
 ·rename_i hok
  obtain ⟨hsok, hlen⟩ := hok
  have hsome := hsok.some
  have hswo := hsok.swo
  have htot := hsok.tot
  obtain rfl := Option.some.inj hxy
  refine .inl ⟨run_callFunc_body hf hname hb _ w, ?_⟩
  have hnone : ∀ (p : Option Addr) (cap : Nat), Calls P f #[.slice p 0 cap, .func (.func g) #[] #[]] w fun e w' => e = .returned (.tuple #[]) ∧ w' = w := fun p cap => by
   have := AnyF.slices_SortFunc_none L p cap (.func (.func g) #[] #[]) w
   rw [hk] at this
   exact this
  dsimp only
  rcases hO with ⟨rfl, rfl, rfl⟩ | ⟨b, cap, c, F', rfl, h1, h2, hblk, hsz, hrel, rfl⟩
  ·refine (hnone none 0).mono ?_
   rintro e' w' ⟨rfl, rfl⟩
   exact ⟨rfl, .inl ⟨by simp, rfl, rfl⟩, Nat.le_refl _, ⟨rfl, rfl, rfl, fun _ => Nat.le_refl _⟩, fun _ _ _ => rfl⟩
  ·by_cases hx0 : xs = []
   ·subst hx0
    refine (hnone (some ⟨b, 0, none⟩) cap).mono ?_
    rintro e' w' ⟨rfl, rfl⟩
    exact ⟨rfl, .inr ⟨b, cap, c, F', by simp, by simp, h2, hblk, hsz, by simpa using hrel, rfl⟩, Nat.le_refl _, ⟨rfl, rfl, rfl, fun _ => Nat.le_refl _⟩, fun _ _ _ => rfl⟩
   ·obtain ⟨hcl, hwf, rfl⟩ := (rel_flat_list he xs _ _).1 hrel
    obtain ⟨x0, hx0⟩ := List.exists_mem_of_ne_nil xs hx0
    haveI : Inhabited (Elm xs) := ⟨⟨x0, hx0⟩⟩
    have henc : ∀ x : Elm xs, (encF e x.1).length = e.size := fun x => encF_len e x.1 he
    obtain ⟨d, hd⟩ : ∃ d : Array (Elm xs), d.toList.map (·.1) = xs := ⟨xs.attach.toArray, by simp⟩
    have hdn : d.size = xs.length := by
     have := congrArg List.length hd
     simpa using this
    have hfl : (flatK (fun x : Elm xs => encF e x.1) e.size d).toList = (xs.map (encF e)).flatten := by
     have h2 := congrArg (List.map (encF e)) hd
     rw [List.map_map] at h2
     rw [flatK_list henc, ← h2]
     rfl
    obtain ⟨ty, fr, hheap, hfr⟩ := hblk
    have hbs : b < w.heap.size := by
     rcases Nat.lt_or_ge b w.heap.size with h | h
     ·exact h
     ·rw [Array.getElem?_eq_none h] at hheap; cases hheap
    have hcs : xs.length * e.size ≤ c.size := by rw [hsz]; exact Nat.mul_le_mul_right _ h1
    have hH : HoldsK (fun x : Elm xs => encF e x.1) e.size w b 0 d := by
     intro j hj
     rw [size_flatK, hdn] at hj
     have hc : c[j]? = some (flatK (fun x : Elm xs => encF e x.1) e.size d)[j]! := by
      have e1 : (c.toList.take (xs.length * e.size))[j]? = ((flatK (fun x : Elm xs => encF e x.1) e.size d).toList)[j]? := by rw [hcl, hfl]
      rw [List.getElem?_take, if_pos hj, Array.getElem?_toList, Array.getElem?_toList] at e1
      rw [e1, Array.getElem?_eq_getElem (by rw [size_flatK, hdn]; exact hj), getElem!_pos _ j (by rw [size_flatK, hdn]; exact hj)]
     constructor
     ·simp only [World.cell?, hheap, Nat.zero_add, hc]
      rfl
     ·simp only [World.frozen?, hheap, Nat.zero_add]
      exact hfr j (by omega)
    have hS := AnyQ.slices_SortFunc_total L e.size aE zE (fun x : Elm xs => encF e x.1) henc (fun x => encF_one e x.1 he) (cmpE F) hswo g #[] b 0 cap d w (fun args w => run_callFunc_body hg hgname hgb args w)
     (cmp_lays hg hgname hgb he ha hcmp hwf hsome b 0 d.size w) hH hbs (by rw [hdn]; exact hlen) htot
    rw [hk, hdn] at hS
    refine hS.mono ?_
    rintro e' w' ⟨rfl, n, os, rfl⟩
    have hms : (d.toList.mergeSort fun x y => !ltOf (cmpE F) y x).map (·.1) = xs.mergeSort fun x y => !decide (cmpV F y x < 0) := by
     have h2 : (d.toList.mergeSort fun x y => !ltOf (cmpE F) y x).map (·.1) = (d.toList.map (·.1)).mergeSort fun x y => !decide (cmpV F y x < 0) := List.map_mergeSort fun a _ b _ => rfl
     rw [h2, hd]
    generalize hdk : (d.toList.mergeSort fun x y => !ltOf (cmpE F) y x) = l at *
    have hll : l.length = xs.length := by
     have := congrArg List.length hms
     simpa using this
    refine ⟨rfl, .inr ⟨b, cap, Sort.putCells id 0 (flatK (fun x : Elm xs => encF e x.1) e.size l.toArray) c, [], ?_, ?_, h2, ⟨ty, fr, ?_, ?_⟩, ?_, ?_, rfl⟩, ?_, ⟨rfl, rfl, rfl, fun _ => Nat.le_add_right _ _⟩, ?_⟩
    ·simp
    ·simpa using h1
    ·show (w.heap.modify b (onCells _) ++ os)[b]? = _
     rw [Array.getElem?_append_left (by simpa using hbs), Array.getElem?_modify, if_pos rfl, hheap]
     rfl
    ·intro o ho
     refine hfr o ?_
     simpa [Sort.putCells] using ho
    ·simp [Sort.putCells, hsz]
    ·have hsw : (xs.mergeSort fun x y => !decide (cmpV F y x < 0)).length = xs.length := by simp
     refine (rel_flat_list he _ _ _).2 ⟨?_, fun x hx => ?_, rfl⟩
     ·rw [hsw, ← hms, List.map_map]
      have hfl2 : (flatK (fun x : Elm xs => encF e x.1) e.size l.toArray).toList = (l.map (fun x : Elm xs => encF e x.1)).flatten := by rw [flatK_list henc]
      have hfs : (flatK (fun x : Elm xs => encF e x.1) e.size l.toArray).size = xs.length * e.size := by rw [size_flatK]; simp [hll]
      show _ = (l.map (fun x : Elm xs => encF e x.1)).flatten
      rw [← hfl2]
      refine List.ext_getElem? fun t => ?_
      rw [List.getElem?_take, Array.getElem?_toList, Array.getElem?_toList]
      by_cases ht : t < xs.length * e.size
      ·rw [if_pos ht]
       unfold Sort.putCells
       rw [Array.getElem?_mapIdx, Array.getElem?_eq_getElem (show t < c.size by omega), Option.map_some, if_pos (by rw [hfs]; omega), Array.getElem?_eq_getElem (by rw [hfs]; exact ht), Nat.sub_zero, getElem!_pos _ t (by rw [hfs]; exact ht)]
       rfl
      ·rw [if_neg ht, Array.getElem?_eq_none (by rw [hfs]; omega)]
     ·exact hwf x (by simpa using hx)
    ·show w.heap.size ≤ (w.heap.modify b (onCells _) ++ os).size
     simp
    ·intro b' hb' hne
     show (w.heap.modify b (onCells _) ++ os)[b']? = _
     rw [Array.getElem?_append_left (by simpa using hb'), Array.getElem?_modify, if_neg (fun h => hne (by simp [h]))]
 ·cases hxy

end
end Go.Pv
