/- Structs, arrays and rows that are built: the operations. -/
import Derived.Test.YtmjappidghjkjaaPvBuild
import Derived.Laws.Tables
namespace Go.Pv
noncomputable section
universe u v

theorem mapM_get {α β : Type} {F : α → Option β} : ∀ {l : List α}, (∀ x ∈ l, ∃ y, F x = some y) → ∃ r, l.mapM F = some r ∧ ∀ (i : Nat) x, l[i]? = some x → r[i]? = F x
  | [], _ => ⟨[], rfl, by simp⟩
  | x :: l, h => by
    obtain ⟨y, hy⟩ := h x (by simp)
    obtain ⟨r, hr, hg⟩ := mapM_get (l := l) (fun z hz => h z (by simp [hz]))
    refine ⟨y :: r, ?_, fun i z hi => ?_⟩
    · rw [List.mapM_cons, hy, hr]; rfl
    · cases i with
      | zero => obtain rfl : x = z := by simpa using hi
                simp [hy]
      | succ i => simpa using hg i z (by simpa using hi)

theorem zeroD_dflt {P : Program} {t : TypeId} {d : Dyn} (h : zeroD P t = some d) : d.val = dflt d.ty := by
  unfold zeroD at h
  obtain ⟨ty, _, h⟩ := bind_some h
  obtain ⟨z, _, h⟩ := bind_some h
  split at h
  · obtain rfl := Option.some.inj h; rfl
  · cases h

theorem lk_mem {α : Type} {i : Nat} {d : α} : ∀ {r : List (Nat × α)}, (i, d) ∈ r → (r.map (·.1)).Nodup → lk i r = some d
  | (j, x) :: r, h, hn => by
    simp only [List.map_cons, List.nodup_cons] at hn
    simp only [lk]
    rcases List.mem_cons.1 h with h1 | h1
    · obtain ⟨rfl, rfl⟩ := Prod.mk.inj h1
      simp
    · have : i ≠ j := by
        intro e; subst e
        exact hn.1 (List.mem_map.2 ⟨(i, d), h1, rfl⟩)
      rw [beq_ne this]
      exact lk_mem h1 hn.2

theorem foldl_set_length : ∀ (parts : List (Nat × Value)) (ss : List (List Value)), (parts.foldl (fun ss q => ss.set q.1 q.2.cells.toList) ss).length = ss.length
  | [], _ => rfl
  | q :: parts, ss => by simp only [List.foldl_cons]; rw [foldl_set_length parts]; simp

theorem RelL_segs {α : Type} {R : α → List Value → List Nat → Prop} : ∀ {xs : List α} {cs : List Value} {F : List Nat}, RelL R xs cs F → F = [] → ∃ ss : List (List Value), cs = ss.flatten ∧ ss.length = xs.length ∧ ∀ (i : Nat) x, xs[i]? = some x → ∃ s, ss[i]? = some s ∧ R x s []
  | [], _, _, ⟨h, _⟩, _ => ⟨[], h, rfl, by simp⟩
  | x :: xs, _, _, ⟨c1, c2, F1, F2, hc, hF, h1, h2⟩, he => by
    rw [he] at hF
    obtain ⟨rfl, rfl⟩ := List.append_eq_nil_iff.1 hF.symm
    obtain ⟨ss, rfl, hl, hg⟩ := RelL_segs h2 rfl
    refine ⟨c1 :: ss, by simp [hc], by simp [hl], fun i y hi => ?_⟩
    cases i with
    | zero => obtain rfl : x = y := by simpa using hi
              exact ⟨c1, rfl, h1⟩
    | succ i => obtain ⟨s, k1, k2⟩ := hg i y (by simpa using hi)
                exact ⟨s, by simpa using k1, k2⟩

theorem segs_len {n : Nat} : ∀ (ss : List (List Value)), (∀ s ∈ ss, s.length = n) → ss.flatten.length = ss.length * n
  | [], _ => by simp
  | s :: ss, h => by rw [List.flatten_cons, List.length_append, segs_len ss (fun x hx => h x (by simp [hx])), h s (by simp), List.length_cons, Nat.add_mul, Nat.one_mul, Nat.add_comm]

section
variable {X : Cx} {st : St} {a : Act} {w : World} {B : Nat → Prop} {G : Nat → PG} {E : Operand → Option EV}

/-- rows of elements: parts of one size, put into cells that hold zeros -/
theorem row_filled {n : Nat} {k e' : Ty} {cells : Array Value} {r : List (Nat × Dyn)} {vs : List (Nat × Value)} {l : List (T e')} (hR : RelL (Rel w B k) (List.replicate n (dflt k)) cells.toList []) (hD : Dat w B r vs)
    (hks : k.size = e'.size) (hnd : nodupK r = true) (hlt : r.all (fun q => Nat.blt q.1 n) = true) (hl : bldL e' ((⟨k, dflt k⟩ : Dyn).as e') (fun i => lk i r) 0 n = some l) :
    ∃ cells', Instr.fill (fun i => some (i * e'.size, e'.size)) cells vs = some cells' ∧ RelL (Rel w B e') l cells'.toList [] ∧ l.length = n := by
  obtain ⟨ss, hss, hsl, hsg⟩ := RelL_segs hR rfl
  rw [List.length_replicate] at hsl
  have hseg : ∀ s ∈ ss, s.length = e'.size := by
    intro s hs
    obtain ⟨i, hi, rfl⟩ := List.mem_iff_getElem.1 hs
    obtain ⟨s', h1, h2⟩ := hsg i (dflt k) (by rw [List.getElem?_replicate, if_pos (by omega)])
    rw [List.getElem?_eq_getElem hi] at h1
    obtain rfl := Option.some.inj h1
    rw [← hks]; exact Rel_length w B _ _ _ _ h2
  have hnd' := nodupK_ok r hnd
  obtain ⟨hb1, hb2, hb3⟩ := bldL_ok (w := w) (B := B) n 0 l hl
  have hlen : ∀ q ∈ vs, q.1 < n := by
    intro q hq
    obtain ⟨d, hd, _⟩ := hD.mem q hq
    have := List.all_eq_true.1 hlt _ hd
    simpa [Nat.blt_eq] using this
  obtain ⟨cells', hc1, hc2⟩ := fill_segs (fun i => some (i * e'.size, e'.size)) vs cells ss hss (by
    intro q hq
    obtain ⟨d, hd, hp, hv⟩ := hD.mem q hq
    have hi : q.1 < ss.length := by rw [hsl]; exact hlen q hq
    refine ⟨ss[q.1], List.getElem?_eq_getElem hi, ?_, ?_⟩
    · rw [hseg _ (List.getElem_mem hi), segs_len (ss.take q.1) (fun s hs => hseg s (List.mem_of_mem_take hs)), List.length_take, Nat.min_eq_left (Nat.le_of_lt hi)]
    · have := hb2 q.1 d (hlen q hq) (by rw [Nat.zero_add]; exact lk_mem hd hnd')
      have hl := Rel_length w B _ _ _ _ hv.1
      rw [hseg _ (List.getElem_mem hi), ← this, ← hl]; simp)
  refine ⟨cells', hc1, ?_, hb1⟩
  rw [hc2]
  refine hb3 _ (by rw [foldl_set_length]; exact hsl) fun i hi => ?_
  have hg := segs_get vs ss i (fun q hq => by rw [hsl]; exact hlen q hq) (by rw [hD.fst]; exact hnd')
  have hd := hD.lk i
  rw [Nat.zero_add]
  cases hlk : lk i r with
  | some d =>
    rw [hlk] at hd
    obtain ⟨v, hv, _, hvr⟩ := hd
    rw [hv] at hg
    exact ⟨_, hg, hvr.1⟩
  | none =>
    rw [hlk] at hd
    have hd : lk i vs = none := hd
    rw [hd] at hg
    intro zv hzv
    obtain ⟨s, h1, h2⟩ := hsg i (dflt k) (by rw [List.getElem?_replicate, if_pos hi])
    refine ⟨s, by rw [hg]; exact h1, ?_⟩
    simp only [Dyn.as] at hzv
    split at hzv
    · rename_i he
      have he : k = e' := he
      subst he
      obtain rfl := Option.some.inj hzv
      exact h2
    · cases hzv

theorem toList_map_prs (ps : Array (Nat × Operand)) (ρ : Operand → Value) : (ps.map fun (i, x) => (i, ρ x)).toList = ps.toList.map fun q => (q.1, ρ q.2) := by
  simp

theorem op_build (h : Inv X st a w B G) (hE : EOk X st a w B G E) {o : Oper} {t : TypeId} {ps : Array (Nat × Operand)} (ho : o.op = .build t ps) {Γ : Nat → Option CSem} {dst : Nat} {r : ORes} (he : evalOp X.P Γ (look st) E dst (.build t ps) o.type = some r) {x : r.α} (_hx : r.run = some x) :
    Does X st a w o (r.out x).ev (r.out x).upd := by
  simp only [evalOp, buildOp] at he
  split at he
  · rename_i fs hu
    obtain ⟨xs, hxs, he⟩ := bind_some he
    obtain ⟨⟨r', U⟩, ht, he⟩ := bind_some he
    obtain ⟨z, hz, he⟩ := bind_some he
    split at he
    · rename_i zk zval
      split at he
      · rename_i hk
        simp only [Bool.and_eq_true] at hk
        obtain ⟨y, hy, he⟩ := bind_some he
        split at he
        · rename_i hyp
          obtain rfl := Option.some.inj he
          have hprs := mapM_prs (a := a) (w := w) (B := B) (G := G) (st := st) (fun q z hz => by
            obtain ⟨e1, h1, hz⟩ := bind_some hz
            obtain ⟨e2, h2, rfl⟩ := Option.map_eq_some_iff.1 hz
            obtain ⟨f, _, h2⟩ := bind_some h2
            exact ⟨rfl, fix_ok (hE _ _ h1) h2⟩) ps.toList xs hxs
          obtain ⟨B', G', hI, hD, _, _⟩ := takeAll_ok xs _ st B G r' U h hprs ht
          obtain ⟨_, zv, hzv, hzR⟩ := zeroD_ok (w := w) (B := B') hz
          have hdz : zval = dflt zk := zeroD_dflt hz
          subst hdz
          obtain ⟨ss, hss, hsl, hpl, hb⟩ := laid_ok (w := w) (B := B') fs.toList 0 zk zv.cells.toList hk.1.1 hzR
          obtain ⟨hb1, hb2⟩ := hb 0 _ y hy
          have hnd := nodupK_ok r' hk.1.2
          have hlt : ∀ q ∈ (ps.toList.map fun q => (q.1, a.eval q.2)), q.1 < fs.toList.length := by
            intro q hq
            obtain ⟨d, hd, _⟩ := hD.mem q hq
            have := List.all_eq_true.1 hk.2 _ hd
            simpa [Nat.blt_eq] using this
          obtain ⟨places, hplaces, hpg⟩ := mapM_get (F := fun f : Field => (X.P.info? f.type).map fun i => (f.offset, i.size)) (l := fs.toList) (by
            intro f hf
            obtain ⟨i, hi, rfl⟩ := List.mem_iff_getElem.1 hf
            obtain ⟨s, t, _, _, h3, _⟩ := hpl i _ (List.getElem?_eq_getElem hi)
            obtain ⟨inf, hinf, _⟩ := sizeOk_info h3
            exact ⟨_, by rw [hinf]; rfl⟩)
          obtain ⟨cells', hc1, hc2⟩ := fill_segs (places.toArray[·]?) (ps.toList.map fun q => (q.1, a.eval q.2)) zv.cells ss hss (by
            intro q hq
            obtain ⟨d, hd, hp, hv⟩ := hD.mem q hq
            have hi := hlt q hq
            obtain ⟨s, t, h1, h2, h3, h4⟩ := hpl q.1 _ (List.getElem?_eq_getElem hi)
            obtain ⟨inf, hinf, hsz, _⟩ := sizeOk_info h3
            refine ⟨s, h1, ?_, ?_⟩
            · simp only [List.getElem?_toArray]
              rw [hpg q.1 _ (List.getElem?_eq_getElem hi), hinf, Option.map_some, h2, hsz, h4, Nat.zero_add]
            · rw [← hb1 q.1 s d h1 (by rw [Nat.zero_add]; exact lk_mem hd hnd), ← Rel_length w B' _ _ _ _ hv.1]; simp)
          have hbuilt : X.P.built t (ps.toList.map fun q => (q.1, a.eval q.2)) = some cells' := by
            unfold Program.built
            cases hinf : X.P.info? t with
            | none => rw [hinf] at hzv; cases hzv
            | some inf =>
              rw [hinf] at hzv
              have hzv : inf.zero = some zv := hzv
              simp only [hu, hzv, hplaces]
              exact hc1
          refine Does.value (v := .agg cells') ?_ hI ?_
          · have hr := run_build w t (ps.map fun (i, x) => (i, a.eval x)) cells' (by rw [toList_map_prs]; exact hbuilt)
            simp [execOp, ho, hr]
          · simp only [EVR]
            refine ⟨hyp, ?_, rfl⟩
            show Rel w B' y.ty y.val cells'.toList []
            rw [hc2]
            refine hb2 _ (by rw [foldl_set_length]; exact hsl) fun i hi => ?_
            have hg := segs_get (ps.toList.map fun q => (q.1, a.eval q.2)) ss i (fun q hq => by rw [hsl]; exact hlt q hq) (by rw [hD.fst]; exact hnd)
            have hd := hD.lk i
            rw [Nat.zero_add]
            cases hlk : lk i r' with
            | some d =>
              rw [hlk] at hd
              obtain ⟨v, hv, _, hvr⟩ := hd
              rw [hv] at hg
              exact ⟨_, hg, hvr.1⟩
            | none =>
              rw [hlk] at hd
              have hd : lk i (ps.toList.map fun q => (q.1, a.eval q.2)) = none := hd
              rw [hd] at hg
              exact hg
        · cases he
      · cases he
    · cases he
  · rename_i n e hu
    obtain ⟨xs, hxs, he⟩ := bind_some he
    obtain ⟨⟨r', U⟩, ht, he⟩ := bind_some he
    obtain ⟨z, hz, he⟩ := bind_some he
    split at he
    · rename_i m k zval
      simp only at he
      generalize kindOr k r' = e' at he
      split at he
      · rename_i hk
        simp only [Bool.and_eq_true] at hk
        obtain ⟨l, hl, rfl⟩ := Option.map_eq_some_iff.1 he
        have hprs := mapM_prs (a := a) (w := w) (B := B) (G := G) (st := st) (fun q z hz => by
          obtain ⟨e1, h1, hz⟩ := bind_some hz
          obtain ⟨e2, h2, rfl⟩ := Option.map_eq_some_iff.1 hz
          exact ⟨rfl, fix_ok (hE _ _ h1) h2⟩) ps.toList xs hxs
        obtain ⟨B', G', hI, hD, _, _⟩ := takeAll_ok xs _ st B G r' U h hprs ht
        obtain ⟨_, zv, hzv, hzR⟩ := zeroD_ok (w := w) (B := B') hz
        have hmn := Nat.eq_of_beq_eq_true hk.1.1.1.1.1
        subst hmn
        have hdz : zval = List.replicate m (dflt k) := zeroD_dflt hz
        subst hdz
        obtain ⟨cells', hc1, hc2, hc3⟩ := row_filled hzR.2 hD (Nat.eq_of_beq_eq_true hk.1.2) hk.1.1.2 hk.2 hl
        obtain ⟨ie, hie, hies, _⟩ := sizeOk_info hk.1.1.1.1.2
        have hbuilt : X.P.built t (ps.toList.map fun q => (q.1, a.eval q.2)) = some cells' := by
          unfold Program.built
          cases hinf : X.P.info? t with
          | none => rw [hinf] at hzv; cases hzv
          | some inf =>
            rw [hinf] at hzv
            have hzv : inf.zero = some zv := hzv
            simp only [hu, hzv, hie, hies]
            exact hc1
        refine Does.value (v := .agg cells') ?_ hI ?_
        · have hr := run_build w t (ps.map fun (i, x) => (i, a.eval x)) cells' (by rw [toList_map_prs]; exact hbuilt)
          simp [execOp, ho, hr]
        · show EVR _ _ _ _ _ (.val ⟨.agg (.arr m e'), l⟩) _
          simp only [EVR]
          exact ⟨hk.1.1.1.2, ⟨hc3, hc2⟩, rfl⟩
      · cases he
    · cases he
  · cases he

theorem zeroRow_list (l : List Value) : ∀ n, (List.range (n * l.length)).map (fun i => l.toArray[i % l.length]!) = (List.replicate n l).flatten
  | 0 => by simp
  | n + 1 => by
    rw [Nat.add_mul, Nat.one_mul, Nat.add_comm, List.range_add, List.map_append, List.map_map, List.replicate_succ, List.flatten_cons, ← zeroRow_list l n]
    congr 1
    · apply List.ext_getElem
      · simp
      · intro i h1 h2
        simp at h1 h2
        simp [Nat.mod_eq_of_lt h1, h1]
    · apply List.map_congr_left
      intro i _
      simp

theorem op_buildSlice (h : Inv X st a w B G) (hE : EOk X st a w B G E) {o : Oper} {t : TypeId} {n : Nat} {ps : Array (Nat × Operand)} (ho : o.op = .buildSlice t n ps) {Γ : Nat → Option CSem} {dst : Nat} {r : ORes} (he : evalOp X.P Γ (look st) E dst (.buildSlice t n ps) o.type = some r) {x : r.α} (_hx : r.run = some x) :
    Does X st a w o (r.out x).ev (r.out x).upd := by
  simp only [evalOp, buildSliceOp] at he
  split at he
  · rename_i e hu
    obtain ⟨xs, hxs, he⟩ := bind_some he
    obtain ⟨⟨r', U⟩, ht, he⟩ := bind_some he
    obtain ⟨z, hz, he⟩ := bind_some he
    simp only at he
    generalize kindOr z.ty r' = e' at he
    split at he
    · rename_i hk
      simp only [Bool.and_eq_true, Bool.not_eq_true'] at hk
      obtain ⟨l, hl, rfl⟩ := Option.map_eq_some_iff.1 he
      have hprs := mapM_prs (a := a) (w := w) (B := B) (G := G) (st := st) (fun q z hz => by
        obtain ⟨e1, h1, hz⟩ := bind_some hz
        obtain ⟨e2, h2, rfl⟩ := Option.map_eq_some_iff.1 hz
        exact ⟨rfl, fix_ok (hE _ _ h1) h2⟩) ps.toList xs hxs
      obtain ⟨B', G', hI, hD, _, _⟩ := takeAll_ok xs _ st B G r' U h hprs ht
      obtain ⟨_, zv, hzv, hzR⟩ := zeroD_ok (w := w) (B := B') hz
      obtain ⟨zt, zval⟩ := z
      have hdz : zval = dflt zt := zeroD_dflt hz
      subst hdz
      have hsz : zt.size = e'.size := Nat.eq_of_beq_eq_true hk.1.2
      have h0 : e'.size ≠ 0 := fun e => by rw [e] at hk; simp at hk
      have hzl := Rel_length w B' _ _ _ _ hzR
      have hzl' : zv.cells.size = e'.size := by rw [← hsz, ← hzl]; simp
      have hrep : ∀ n, RelL (Rel w B' zt) (List.replicate n (dflt zt)) (List.replicate n zv.cells.toList).flatten [] := by
        intro n
        induction n with
        | zero => exact ⟨rfl, rfl⟩
        | succ n ih => exact ⟨_, _, [], [], by rw [List.replicate_succ, List.flatten_cons], rfl, hzR, ih⟩
      have hcells : ((Array.range (n * e'.size)).map (zv.cells[· % zv.cells.size]!)).toList = (List.replicate n zv.cells.toList).flatten := by
        have := zeroRow_list zv.cells.toList n
        rw [← this]
        simp [hzl']
      obtain ⟨cells', hc1, hc2, hc3⟩ := row_filled (cells := (Array.range (n * e'.size)).map (zv.cells[· % zv.cells.size]!)) (by rw [hcells]; exact hrep n) hD hsz hk.1.1.2 hk.2 hl
      have hcl : cells'.size = n * e'.size := by
        have := RelL_length (fun x cs F h => Rel_length w B' e' x cs F h) _ _ _ hc2
        rw [hc3] at this
        simpa using this
      have hle : n * e'.size ≤ 16777216 := Nat.le_of_ble_eq_true hk.1.1.1.2
      obtain ⟨g, hI2, hev⟩ := hI.newRow (nameOf_even dst 0) (e := e') hk.1.1.1.1.1.2 (xs := l) (c := cells') (cap := n) e (by
          have hll : l.length * e'.size = cells'.toList.length := by rw [hc3, ← hcl]; simp
          rw [hll, List.take_length]; exact hc2) (by omega)
        (by have : n ≤ n * e'.size := Nat.le_mul_of_pos_right n (by omega)
            unfold maxLen; omega) hcl { w with heap := w.heap.push (.cells cells' e) } rfl
      rw [← applyU_append] at hI2 hev
      refine Does.value (w' := { w with heap := w.heap.push (.cells cells' e) }) (v := .slice (some ⟨w.heap.size, 0, none⟩) l.length n) ?_ hI2 hev
      have hzr := run_zero hzv w
      have hnot : ¬ (2 ^ 24 < n * e'.size) := by omega
      by_cases hn0 : n * e'.size = 0
      · have hn : n = 0 := by
          rcases Nat.mul_eq_zero.1 hn0 with h | h
          · exact h
          · exact absurd h h0
        subst hn
        have hvs : ps.toList.map (fun q => (q.1, a.eval q.2)) = [] := by
          cases hvs : ps.toList.map (fun q => (q.1, a.eval q.2)) with
          | nil => rfl
          | cons q vs =>
            rw [hvs] at hD
            obtain ⟨d, hd, _⟩ := hD.mem q (by simp)
            have := List.all_eq_true.1 hk.2 _ hd
            simp [Nat.blt_eq] at this
        have hps : ps = #[] := by
          have : ps.toList = [] := by simpa using hvs
          simpa using this
        subst hps
        have hc : cells' = #[] := by
          have : cells'.size = 0 := by rw [hcl]; omega
          exact Array.eq_empty_of_size_eq_zero this
        subst hc
        simp [execOp, ho, Instr.buildSlice, underlying, hu, run_sizeOf hk.1.1.1.1.1.1, Instr.fill, Go.newRow, hc3]
        rw [show Array.range 0 = #[] by simp [Array.range], Array.map_empty]
      · simp only [execOp, ho, Instr.buildSlice, underlying, Sem.run_bind, run_program, Result.andThen_ok, hu, Sem.run_pure, run_sizeOf hk.1.1.1.1.1.1, Sem.run_ite, hn0, hzr, if_false]
        rw [if_neg hnot]
        simp only [toList_map_prs, hc1, Sem.run_bind, Go.newRow, run_newObj, Result.andThen_ok, Sem.run_pure, hc3]
    · cases he
  · cases he

end
end
end Go.Pv
