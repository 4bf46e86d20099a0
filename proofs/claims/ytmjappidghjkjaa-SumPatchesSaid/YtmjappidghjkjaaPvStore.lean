/- Stores: into a place, and into an element of an owned slice. -/
import Derived.Test.YtmjappidghjkjaaPvBuild2
namespace Go.Pv
noncomputable section
universe u v

theorem plain_one' {v : Value} (h : Value.plain? v = true) : v.oneCell' = true := by cases v <;> first | rfl | (cases h)

theorem setCell_heap (w : World) (b o : Nat) (v : Value) : (w.setCell ⟨b, o, none⟩ v).heap[b]? = (w.heap[b]?).map fun | .cells c e f => .cells (c.setIfInBounds o v) e f | o => o := by
  simp only [World.setCell, Array.getElem?_modify, if_true]
  cases w.heap[b]? with
  | none => rfl
  | some x => cases x <;> rfl

theorem setCells_ok (b : Nat) {ty : TypeId} {fr : Nat × Nat} : ∀ (vs : List Value) (o : Nat) (w : World) (c : Array Value) (A M Z : List Value), w.heap[b]? = some (.cells c ty fr) → c.toList = A ++ M ++ Z → A.length = o → M.length = vs.length →
    ∃ c', (w.setCells b o vs).heap[b]? = some (.cells c' ty fr) ∧ c'.toList = A ++ vs ++ Z
  | [], o, w, c, A, M, Z, h, hc, _, hM => by
    have : M = [] := List.eq_nil_of_length_eq_zero hM
    subst this
    exact ⟨c, h, by simpa using hc⟩
  | v :: vs, o, w, c, A, M, Z, h, hc, hA, hM => by
    cases M with
    | nil => simp at hM
    | cons m M =>
      obtain ⟨c', h1, h2⟩ := setCells_ok b vs (o + 1) (w.setCell ⟨b, o, none⟩ v) (c.setIfInBounds o v) (A ++ [v]) M Z (by rw [setCell_heap, h]; rfl)
        (by rw [Array.toList_setIfInBounds, hc, ← hA]; simp [List.set_append]) (by simp [hA]) (by simpa using hM)
      exact ⟨c', h1, by rw [h2]; simp⟩

theorem setCells_other (b : Nat) : ∀ (vs : List Value) (o : Nat) (w : World) (b' : Nat), b' ≠ b → Same w (w.setCells b o vs) b'
  | [], _, _, _, _ => rfl
  | v :: vs, o, w, b', h => by
    have h1 := setCells_other b vs (o + 1) (w.setCell ⟨b, o, none⟩ v) b' h
    refine Eq.trans h1 ?_
    simp only [World.setCell, Array.getElem?_modify, if_neg (Ne.symm h)]

theorem setCells_rest (b : Nat) : ∀ (vs : List Value) (o : Nat) (w : World), (w.setCells b o vs).heap.size = w.heap.size ∧ (w.setCells b o vs).tape = w.tape ∧ (w.setCells b o vs).os = w.os ∧ (w.setCells b o vs).output = w.output
  | [], _, _ => ⟨rfl, rfl, rfl, rfl⟩
  | v :: vs, o, w => by
    obtain ⟨h1, h2, h3, h4⟩ := setCells_rest b vs (o + 1) (w.setCell ⟨b, o, none⟩ v)
    refine ⟨h1.trans ?_, h2, h3, h4⟩
    simp [World.setCell]

/-- a row of cells in a block -/
theorem rows_split {w : World} {b off : Nat} {c : Array Value} (hb : Blk w b c) {cs : List Value} (hr : Rows w b off cs) (hne : cs ≠ [] ∨ off ≤ c.size) : ∃ A Z, c.toList = A ++ cs ++ Z ∧ A.length = off := by
  have key : ∀ (i : Nat) v, cs[i]? = some v → c.toList[off + i]? = some v := by
    intro i v hi
    have := hr i v hi
    rw [hb.cell] at this
    simpa using this
  have hle : off + cs.length ≤ c.toList.length := by
    cases cs with
    | nil =>
      rcases hne with h | h
      · exact absurd rfl h
      · simpa using h
    | cons v cs =>
      have := key cs.length ((v :: cs)[cs.length]'(by simp)) (List.getElem?_eq_getElem _)
      have := (List.getElem?_eq_some_iff.1 this).1
      simp at this ⊢
      omega
  refine ⟨c.toList.take off, c.toList.drop (off + cs.length), ?_, by rw [List.length_take]; omega⟩
  apply List.ext_getElem?
  intro i
  by_cases h1 : i < off
  · rw [List.append_assoc, List.getElem?_append_left (by rw [List.length_take]; omega), List.getElem?_take, if_pos h1]
  · by_cases h2 : i < off + cs.length
    · rw [List.append_assoc, List.getElem?_append_right (by rw [List.length_take]; omega), List.length_take, Nat.min_eq_left (by omega), List.getElem?_append_left (by omega)]
      have h3 : i - off < cs.length := by omega
      have := key (i - off) _ (List.getElem?_eq_getElem h3)
      rw [show off + (i - off) = i by omega] at this
      rw [this, List.getElem?_eq_getElem h3]
    · rw [List.append_assoc, List.getElem?_append_right (by rw [List.length_take]; omega), List.length_take, Nat.min_eq_left (by omega), List.getElem?_append_right (by omega), List.getElem?_drop]
      congr 1; omega

theorem run_storeAt {P : Program} {w : World} {b off : Nat} {c : Array Value} (hb : Blk w b c) {A M Z : List Value} (hc : c.toList = A ++ M ++ Z) (hA : A.length = off) {v : Value} (hM : M.length = v.cells.toList.length) (hp : ∀ x ∈ v.cells.toList, Value.plain? x = true) {t : TypeId} {ty : Ty}
    (hs : sizeOk P t ty = true) (hv : v.cells.toList.length = ty.size) : (storeVar t ⟨b, off, none⟩ v).run P w = .ok () (w.setCells b off v.cells.toList) := by
  have hlen : c.size = A.length + M.length + Z.length := by rw [← Array.length_toList, hc]; simp [Nat.add_assoc]
  have hst := run_storeCells_cells (P := P) b off v.cells.toList 0 w (fun j hj => by
      rw [hb.cell, Option.isSome_iff_exists]
      exact ⟨_, Array.getElem?_eq_getElem (by omega)⟩)
    (fun j hj => by
      obtain ⟨ty', fr, h1, h2⟩ := hb
      unfold World.frozen?
      rw [h1]
      exact h2 _ (by show off + 0 + j < c.size; omega))
    (fun x hx => plain_one' (hp x hx))
  have hv2 : v.cells.size = ty.size := by rw [← hv]; simp
  simp only [storeVar, Sem.run_bind, run_sizeOf hs, Result.andThen_ok, Sem.run_ite, hv2, ne_eq, not_true_eq_false, if_false]
  simpa using hst

section
variable {X : Cx} {st : St} {a : Act} {w : World} {B : Nat → Prop} {G : Nat → PG} {E : Operand → Option EV}

/-- cells in a place's memory are written -/
theorem Inv.store (h : Inv X st a w B G) {n : Nat} {d : Dyn} (hd : lk n st.pl = some d) {b off : Nat} (hg : (G n).addr = some (b, off)) {p : Path} {y : ODyn} {v : T y.ty} (hget : getP ⟨d.ty, some d.val⟩ p = some y) (hv : y.val = some v)
    {u : Ty} {z : T u} {mid' : List Value} {F2' : List Nat} (hz : Rel w B u z mid' F2') (hn2 : F2'.Nodup) (hs2 : ∀ b ∈ F2', ¬ B b ∧ b < w.heap.size ∧ (b < X.w0.heap.size → b ∈ X.ob))
    (hap2 : ∀ b ∈ F2', ∀ m d, lk m st.pl = some d → b ∉ (G m).blocks) (hsk : sk u = sk y.ty) {r : ODyn} {k : T r.ty} (hset : setP ⟨d.ty, some d.val⟩ p ⟨u, some z⟩ = some r) (hk : r.val = some k) {o : Nat} (ho : offP d.ty p = some (o, y.ty)) (hu0 : u.size ≠ 0) :
    (∃ A M Z c, Blk w b c ∧ c.toList = A ++ M ++ Z ∧ A.length = off + o ∧ M.length = mid'.length) ∧ ∃ G', Inv X (applyU [(n, .set ⟨r.ty, k⟩)] st) a (w.setCells b (off + o) mid') B G' ∧ (∀ m, m ≠ n → G' m = G m) ∧ (G' n).addr = (G n).addr := by
  obtain ⟨hR, hA⟩ := h.pl n d hd
  rw [hg] at hA
  obtain ⟨hrows, c, hblk⟩ := hA
  obtain ⟨o', pre, mid, post, F1, F2, F3, ho', hc, hl, hF, hm, hrep⟩ := getP_rel p d.ty d.val y v _ _ hget hv hR
  rw [ho] at ho'
  simp only [Option.some.injEq, Prod.mk.injEq] at ho'
  obtain ⟨rfl, _⟩ := ho'
  obtain ⟨hnd, hsep⟩ := h.sep n d hd
  have hbB : ¬ B b := (hsep b (by unfold PG.blocks; rw [hg]; simp)).1
  have hbn : b ∈ (G n).blocks := by unfold PG.blocks; rw [hg]; simp
  have hbF : b ∉ (G n).F := by unfold PG.blocks at hnd; rw [hg] at hnd; exact (List.nodup_cons.1 hnd).1
  have hml : mid.length = mid'.length := by rw [Rel_length w B _ _ _ _ hm, Rel_length w B _ _ _ _ hz, size_of_sk hsk]
  have hmne : mid ≠ [] := by
    intro e
    rw [e] at hml
    rw [Rel_length w B _ _ _ _ hz] at hml
    exact hu0 hml.symm
  obtain ⟨A0, Z0, hcl, hA0⟩ := rows_split hblk hrows (.inl (by rw [hc]; simp [hmne]))
  have hcl2 : c.toList = (A0 ++ pre) ++ mid ++ (post ++ Z0) := by rw [hcl, hc]; simp
  have hAl : (A0 ++ pre).length = off + o := by simp [hA0, hl]
  refine ⟨⟨_, _, _, c, hblk, hcl2, hAl, hml⟩, ?_⟩
  obtain ⟨ty, fr, hheap, hfr⟩ := hblk
  obtain ⟨c', hheap', hcl'⟩ := setCells_ok b mid' (off + o) w c _ _ _ hheap hcl2 hAl hml
  obtain ⟨hsz', htape, hos, hout⟩ := setCells_rest b mid' (off + o) w
  have hcsz : c'.size = c.size := by rw [← Array.length_toList, ← Array.length_toList, hcl', hcl2]; simp [hml]
  have hblk' : Blk (w.setCells b (off + o) mid') b c' := ⟨ty, fr, hheap', fun i hi => hfr i (by rw [← hcsz]; exact hi)⟩
  have hother : ∀ b', b' ≠ b → Same w (w.setCells b (off + o) mid') b' := fun b' hb' => setCells_other b mid' (off + o) w b' hb'
  have hBsame : ∀ b', B b' → Same w (w.setCells b (off + o) mid') b' := fun b' hb' => hother b' (fun e => hbB (e ▸ hb'))
  have hF2b : ∀ b' ∈ F2', b' ≠ b := fun b' hb' e => hap2 b' hb' n d hd (e ▸ hbn)
  have hFb : ∀ b' ∈ (G n).F, b' ≠ b := fun b' hb' e => hbF (e ▸ hb')
  have hz' : Rel (w.setCells b (off + o) mid') B u z mid' F2' := Rel_same hBsame (fun _ h => h) _ _ _ _ hz (fun b' hb' => hother b' (hF2b b' hb'))
  have hF13 : ∀ b' ∈ F1 ++ F3, b' ∈ (G n).F := fun b' hb' => by rw [hF]; rcases List.mem_append.1 hb' with h | h <;> simp [h]
  have hR' := hrep (w.setCells b (off + o) mid') B hBsame (fun _ h => h) (fun b' hb' => hother b' (hFb b' (hF13 b' hb'))) u z mid' F2' r k hz' hset hk
  have hskr : sk r.ty = sk d.ty := setP_sk p ⟨d.ty, some d.val⟩ y ⟨u, some z⟩ r hget hset hsk
  let g' : PG := ⟨some (b, off), pre ++ mid' ++ post, F1 ++ F2' ++ F3⟩
  have hlk : ∀ m d', lk m (applyU [(n, .set ⟨r.ty, k⟩)] st).pl = some d' → (m = n ∧ d' = ⟨r.ty, k⟩) ∨ (m ≠ n ∧ lk m st.pl = some d') := by
    intro m d' hm
    have hm : lk m (Pv.put n (⟨r.ty, k⟩ : Dyn) st.pl) = some d' := hm
    rw [lk_put] at hm
    split at hm
    · rename_i e; exact .inl ⟨e, (Option.some.inj hm).symm⟩
    · rename_i e; exact .inr ⟨e, hm⟩
  have hgb : ∀ b' ∈ g'.blocks, b' ∈ (G n).blocks ∨ b' ∈ F2' := by
    intro b' hb'
    rcases List.mem_cons.1 hb' with rfl | hb'
    · exact .inl hbn
    · rcases List.mem_append.1 hb' with hb' | hb'
      · rcases List.mem_append.1 hb' with hb' | hb'
        · exact .inl (PG.mem_blocks (hF13 b' (by simp [hb'])))
        · exact .inr hb'
      · exact .inl (PG.mem_blocks (hF13 b' (by simp [hb'])))
  have hFn := PG.F_nodup hnd
  rw [hF] at hFn
  have hn1 := List.nodup_append.1 hFn
  have hn2' := List.nodup_append.1 hn1.1
  refine ⟨setG G n g', ?_, fun m hm => setG_ne G g' hm, by rw [setG_same]; exact hg.symm⟩
  refine h.move [(n, .set ⟨r.ty, k⟩)] _ B (setG G n g') (by omega) ⟨htape, hos, hout⟩ (fun b' hb' => ⟨hBsame b' hb', hb'⟩) (fun b' hb' => by rw [hsz']; exact h.bsz b' hb') (fun _ _ h => .inl h)
    (fun b' hb' hno => hother b' (fun e => hno (e ▸ (hsep b hbn).2 (e ▸ hb')))) ?_ ?_ (fun m hm => setG_ne G g' (by simpa [updNames] using hm)) ?_ ?_ ?_ (by simp [Upd.isDel])
  · intro m d' hm
    rcases hlk m d' hm with ⟨rfl, rfl⟩ | ⟨hne, hm⟩
    · rw [setG_same]
      refine ⟨⟨hR', ?_, c', hblk'⟩, ?_, ?_⟩
      · intro i v' hi
        have hi : (pre ++ mid' ++ post)[i]? = some v' := hi
        show (w.setCells b (off + o) mid').cell? ⟨b, off + i, none⟩ = some v'
        rw [hblk'.cell, ← Array.getElem?_toList, hcl', show A0 ++ pre ++ mid' ++ (post ++ Z0) = A0 ++ ((pre ++ mid' ++ post) ++ Z0) by simp, List.getElem?_append_right (by omega), show off + i - A0.length = i by omega,
          List.getElem?_append_left (List.getElem?_eq_some_iff.1 hi).1]
        exact hi
      · show (b :: (F1 ++ F2' ++ F3)).Nodup
        refine List.nodup_cons.2 ⟨fun hb' => ?_, ?_⟩
        · rcases List.mem_append.1 hb' with hb' | hb'
          · rcases List.mem_append.1 hb' with hb' | hb'
            · exact hFb b (hF13 b (by simp [hb'])) rfl
            · exact hF2b b hb' rfl
          · exact hFb b (hF13 b (by simp [hb'])) rfl
        · have hd2 : ∀ x ∈ F1 ++ F3, x ∉ F2' := fun x hx hx2 => hap2 x hx2 m d hd (PG.mem_blocks (hF13 x hx))
          refine List.nodup_append.2 ⟨List.nodup_append.2 ⟨hn2'.1, hn2, fun x hx y hy e => hd2 x (by simp [hx]) (e ▸ hy)⟩, hn1.2.1, fun x hx y hy e => ?_⟩
          rcases List.mem_append.1 hx with hx | hx
          · exact hn1.2.2 x (List.mem_append.2 (.inl hx)) y hy e
          · exact hd2 y (by simp [hy]) (e ▸ hx)
      · intro b' hb'
        rcases hgb b' hb' with hb' | hb'
        · exact hsep b' hb'
        · exact ⟨(hs2 b' hb').1, (hs2 b' hb').2.2⟩
    · rw [setG_ne G g' hne]
      obtain ⟨h1, h2⟩ := h.pl m d' hm
      have hmb : ∀ b' ∈ (G m).blocks, b' ≠ b := fun b' hb' e => h.apart m n d' d hm hd hne b' hb' (e ▸ hbn)
      refine ⟨⟨Rel_same hBsame (fun _ h => h) _ _ _ _ h1 (fun b' hb' => hother b' (hmb b' (PG.mem_blocks hb'))), ?_⟩, h.sep m d' hm⟩
      split
      · trivial
      · rename_i ad hgm
        rw [hgm] at h2
        obtain ⟨k1, c2, k2⟩ := h2
        have hne2 := hother ad.1 (hmb ad.1 (by unfold PG.blocks; rw [hgm]; simp))
        exact ⟨k1.same hne2, c2, k2.same hne2⟩
  · intro m m' d1 d2 h1 h2 hne b' hb' hb''
    rcases hlk m d1 h1 with ⟨e1, _⟩ | ⟨hne1, k1⟩
    · rcases hlk m' d2 h2 with ⟨e2, _⟩ | ⟨hne2, k2⟩
      · exact hne (e1.trans e2.symm)
      · rw [e1, setG_same] at hb'; rw [setG_ne G g' hne2] at hb''
        rcases hgb b' hb' with hb' | hb'
        · exact h.apart n m' d d2 hd k2 (fun e => hne2 e.symm) b' hb' hb''
        · exact hap2 b' hb' m' d2 k2 hb''
    · rw [setG_ne G g' hne1] at hb'
      rcases hlk m' d2 h2 with ⟨e2, _⟩ | ⟨hne2, k2⟩
      · rw [e2, setG_same] at hb''
        rcases hgb b' hb'' with hb'' | hb''
        · exact h.apart m n d1 d k1 hd hne1 b' hb' hb''
        · exact hap2 b' hb'' m d1 k1 hb'
      · rw [setG_ne G g' hne2] at hb''
        exact h.apart m m' d1 d2 k1 k2 hne b' hb' hb''
  · intro u' hu'
    rw [List.mem_singleton] at hu'
    subst hu'
    right
    simp only [setG_same]
    exact ⟨hg.symm, ⟨d, ⟨r.ty, k⟩, hd, by show lk n (Pv.put n _ st.pl) = _; rw [lk_put]; simp, hskr⟩, .inl rfl⟩
  · intro k' d' hk'
    rcases hlk _ d' hk' with ⟨e, rfl⟩ | ⟨hne, hm⟩
    · subst e
      rw [setG_same]
      obtain ⟨b1, o1, s, h1, h2, h3⟩ := h.obj k' d hd
      rw [hg] at h2
      exact ⟨b1, o1, s, h1, h2, by show r.ty.size = s; rw [size_of_sk hskr, h3]⟩
    · rw [setG_ne G g' hne]
      exact h.obj k' d' hm
  · intro k' b2 o2 s2 ho2 i hi
    by_cases e : b2 = b
    · subst e
      obtain ⟨d2, hd2⟩ := h.objL k' b2 o2 s2 ho2
      obtain ⟨b3, o3, s3, h1, h2, h3⟩ := h.obj k' d2 hd2
      rw [ho2] at h1
      simp only [Option.some.injEq, Prod.mk.injEq] at h1
      obtain ⟨rfl, rfl, rfl⟩ := h1
      have hkn : objName k' = n := by
        rcases Decidable.em (objName k' = n) with e | e
        · exact e
        · exact absurd hbn (h.apart _ _ d2 d hd2 hd e b2 (by unfold PG.blocks; rw [h2]; simp))
      rw [hkn] at hd2 h2
      rw [hd] at hd2
      obtain rfl := Option.some.inj hd2
      rw [hg] at h2
      simp only [Option.some.injEq, Prod.mk.injEq, true_and] at h2
      subst h2
      have hlen := Rel_length w B _ _ _ _ hR
      rw [hc] at hlen
      simp only [List.length_append] at hlen
      exact World.cell?_setCells_out b2 mid' (off + o) w _ (fun _ _ => by simp only; omega)
    · exact (hother b2 e).cell i

end
end
end Go.Pv
