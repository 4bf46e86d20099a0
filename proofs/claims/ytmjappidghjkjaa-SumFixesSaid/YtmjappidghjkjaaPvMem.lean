/- Operations that make something new: variables, rows; structs and arrays that are built. -/
import Derived.Test.YtmjappidghjkjaaPvTake
import Derived.Laws.IdiomCopy
import Derived.Deep.AppendSrc
namespace Go.Pv
noncomputable section
universe u v

section
variable {X : Cx} {st : St} {a : Act} {w : World} {B : Nat → Prop} {G : Nat → PG} {E : Operand → Option EV}

theorem applyU_append : ∀ (U V : Upds) (s : St), applyU (U ++ V) s = applyU V (applyU U s)
  | [], _, _ => rfl
  | u :: U, V, s => applyU_append U V (apply1 u s)

theorem Same.cell {w w' : World} {b : Nat} (h : Same w w' b) (i : Nat) : w'.cell? ⟨b, i, none⟩ = w.cell? ⟨b, i, none⟩ := by
  have h : w'.heap[b]? = w.heap[b]? := h
  unfold World.cell?
  rw [h]

/-- the old world, and more -/
structure More (w w' : World) : Prop where
  size : w.heap.size ≤ w'.heap.size
  same : ∀ b, b < w.heap.size → Same w w' b
  rest : w'.tape = w.tape ∧ w'.os = w.os ∧ w'.output = w.output

theorem More.refl (w : World) : More w w := ⟨Nat.le_refl _, fun _ _ => rfl, rfl, rfl, rfl⟩

theorem more_push (w : World) (o : Obj) : More w { w with heap := w.heap.push o } :=
  ⟨by simp, fun b hb => by show ({ w with heap := w.heap.push o } : World).heap[b]? = _; simp [Array.getElem?_push, Nat.ne_of_lt hb], rfl, rfl, rfl⟩

theorem More.of_drawn {w w' : World} (h : More w w') (n : Nat) : More w { w' with drawn := n } := ⟨h.size, fun b hb => h.same b hb, h.rest⟩

theorem blk_push (w : World) (c : Array Value) (e : TypeId) : Blk { w with heap := w.heap.push (.cells c e) } w.heap.size c :=
  ⟨e, (0, 0), by simp, fun o _ => by simp⟩

theorem Rel_more {w w' : World} (hm : More w w') {t : Ty} {x : T t} {cs : List Value} {F : List Nat} (hB : ∀ b, B b → b < w.heap.size) (h : Rel w B t x cs F) : Rel w' B t x cs F :=
  Rel_same (fun b hb => hm.same b (hB b hb)) (fun _ h => h) t x cs F h (fun b hb => hm.same b (Rel_lt t x cs F h b hb))

/-- a new place: in a world where all but its own blocks is as before -/
theorem Inv.newPl (h : Inv X st a w B G) {n : Nat} {d : Dyn} {w' : World} {g : PG} (hsz : w.heap.size ≤ w'.heap.size) (hrest : w'.tape = w.tape ∧ w'.os = w.os ∧ w'.output = w.output)
    (hsame : ∀ b, b < w.heap.size → b ∉ g.blocks → Same w w' b) (hn : n % 2 = 0)
    (hpl : PlR w' B g d) (hnd : g.blocks.Nodup) (hsep : ∀ b ∈ g.blocks, ¬ B b ∧ (b < X.w0.heap.size → b ∈ X.ob))
    (hap : ∀ b ∈ g.blocks, ∀ m d', lk m st.pl = some d' → b ∉ (G m).blocks) : Inv X (applyU [(n, .new d)] st) a w' B (setG G n g) := by
  have hlk : ∀ m d', lk m (applyU [(n, .new d)] st).pl = some d' → (m = n ∧ d' = d) ∨ (m ≠ n ∧ lk m st.pl = some d') := by
    intro m d' hm
    have hm : lk m (Pv.put n d st.pl) = some d' := hm
    rw [lk_put] at hm
    split at hm
    · rename_i e; exact .inl ⟨e, (Option.some.inj hm).symm⟩
    · rename_i e; exact .inr ⟨e, hm⟩
  have hBs : ∀ b, B b → Same w w' b := fun b hb => hsame b (h.bsz b hb) (fun hg => (hsep b hg).1 hb)
  have hold : ∀ m d', lk m st.pl = some d' → ∀ b ∈ (G m).blocks, Same w w' b := by
    intro m d' hm b hb
    refine hsame b ?_ (fun hg => hap b hg m d' hm hb)
    obtain ⟨hR, hA⟩ := h.pl m d' hm
    unfold PG.blocks at hb
    cases hg : (G m).addr with
    | none => rw [hg] at hb; exact Rel_lt _ _ _ _ hR _ hb
    | some q =>
      rw [hg] at hb hA
      rcases List.mem_cons.1 hb with hb | hb
      · obtain ⟨_, c, hc⟩ := hA
        rw [hb]; exact hc.lt
      · exact Rel_lt _ _ _ _ hR _ hb
  refine h.move [(n, .new d)] w' B (setG G n g) hsz hrest (fun b hb => ⟨hBs b hb, hb⟩) (fun b hb => Nat.lt_of_lt_of_le (h.bsz b hb) hsz) (fun _ _ h => .inl h)
    (fun b hb hno => hsame b (Nat.lt_of_lt_of_le hb h.size) (fun hg => hno ((hsep b hg).2 hb))) ?_ ?_ ?_ ?_ ?_ ?_ (by simp [Upd.isDel])
  · intro m d' hd'
    rcases hlk m d' hd' with ⟨rfl, rfl⟩ | ⟨hne, hd'⟩
    · rw [setG_same]; exact ⟨hpl, hnd, hsep⟩
    · rw [setG_ne G g hne]
      obtain ⟨h1, h2⟩ := h.pl m d' hd'
      refine ⟨⟨Rel_same hBs (fun _ h => h) _ _ _ _ h1 (fun b hb => hold m d' hd' b (PG.mem_blocks hb)), ?_⟩, h.sep m d' hd'⟩
      split
      · trivial
      · rename_i ad hgm
        rw [hgm] at h2
        obtain ⟨k1, c2, k2⟩ := h2
        have hs := hold m d' hd' ad.1 (by unfold PG.blocks; rw [hgm]; simp)
        exact ⟨k1.same hs, c2, k2.same hs⟩
  · intro m m' d1 d2 h1 h2 hne b hb hb'
    rcases hlk m d1 h1 with ⟨e1, _⟩ | ⟨hne1, k1⟩
    · rcases hlk m' d2 h2 with ⟨e2, _⟩ | ⟨hne2, k2⟩
      · exact hne (e1.trans e2.symm)
      · rw [e1, setG_same] at hb; rw [setG_ne G g hne2] at hb'
        exact hap b hb m' d2 k2 hb'
    · rw [setG_ne G g hne1] at hb
      rcases hlk m' d2 h2 with ⟨e2, _⟩ | ⟨hne2, k2⟩
      · rw [e2, setG_same] at hb'
        exact hap b hb' m d1 k1 hb
      · rw [setG_ne G g hne2] at hb'
        exact h.apart m m' d1 d2 k1 k2 hne b hb hb'
  · intro m hmn
    exact setG_ne G g (by simpa [updNames] using hmn)
  · intro u hu
    have : u = (n, .new d) := by simpa using hu
    subst this
    exact .inl rfl
  · intro k d' hk
    rcases hlk _ d' hk with ⟨e, _⟩ | ⟨hne, hk⟩
    · rw [← e] at hn; unfold objName at hn; omega
    · rw [setG_ne G g hne]; exact h.obj k d' hk
  · intro k b o s ho i _
    refine (hsame b (Nat.lt_of_lt_of_le (h.oaLt k b o s ho) h.size) (fun hg => ?_)).cell i
    obtain ⟨d2, hd2⟩ := h.objL k b o s ho
    obtain ⟨b3, o3, s3, h1, h2, _⟩ := h.obj k d2 hd2
    rw [ho] at h1
    simp only [Option.some.injEq, Prod.mk.injEq] at h1
    obtain ⟨rfl, rfl, rfl⟩ := h1
    exact hap b hg _ d2 hd2 (by unfold PG.blocks; rw [h2]; simp)

theorem nameOf_even (dst i : Nat) : nameOf dst i % 2 = 0 := by unfold nameOf; omega

theorem loc_new {tv : Nat → Value} {st : St} {n b o : Nat} {d : Dyn} {g : PG} (hg : g.addr = some (b, o)) :
    EVR tv w B (setG G n g) (look (applyU [(n, .new d)] st)) (.loc n []) (.pointer (some ⟨b, o, none⟩)) := by
  simp only [EVR]
  refine ⟨d, 0, d.ty, b, o, ?_, rfl, by rw [setG_same]; exact hg, rfl⟩
  show lk n (put n d st.pl) = _
  rw [lk_put]; simp

theorem at_new {tv : Nat → Value} {st : St} {n : Nat} {d : Dyn} {g : PG} {v : Value} (hc : g.cells = v.cells.toList) (hl : v.cells.toList.length = d.ty.size) (ha : Value.agg? v = d.ty.isAgg) :
    EVR tv w B (setG G n g) (look (applyU [(n, .new d)] st)) (.at_ n []) v := by
  simp only [EVR]
  refine ⟨d, 0, d.ty, ?_, rfl, ?_, ha⟩
  · show lk n (put n d st.pl) = _
    rw [lk_put]; simp
  · rw [setG_same, hc, List.drop_zero, ← hl, List.take_length]

theorem heap_fresh (h : Inv X st a w B G) {m : Nat} {d' : Dyn} (hm : lk m st.pl = some d') : w.heap.size ∉ (G m).blocks := by
  intro hb
  obtain ⟨hR, hA⟩ := h.pl m d' hm
  unfold PG.blocks at hb
  cases hg : (G m).addr with
  | none =>
    rw [hg] at hb
    exact Nat.lt_irrefl _ (Rel_lt _ _ _ _ hR _ hb)
  | some q =>
    rw [hg] at hb hA
    rcases List.mem_cons.1 hb with hb | hb
    · obtain ⟨_, c, hc⟩ := hA
      have := hc.lt
      omega
    · exact Nat.lt_irrefl _ (Rel_lt _ _ _ _ hR _ hb)

/-- a new variable, that holds what was given -/
theorem Inv.newVar (h : Inv X st a w B G) {n : Nat} (hn : n % 2 = 0) {d : Dyn} {c : Array Value} {F : List Nat} (e : TypeId) (hR : Rel w B d.ty d.val c.toList F) (hF : F.Nodup)
    (hs : ∀ b ∈ F, ¬ B b ∧ b < w.heap.size ∧ (b < X.w0.heap.size → b ∈ X.ob)) (hap : ∀ b ∈ F, ∀ m d, lk m st.pl = some d → b ∉ (G m).blocks) :
    Inv X (applyU [(n, .new d)] st) a { w with heap := w.heap.push (.cells c e) } B (setG G n ⟨some (w.heap.size, 0), c.toList, F⟩) := by
  refine h.newPl (more_push w _).size (more_push w _).rest (fun b hb _ => (more_push w _).same b hb) hn ⟨Rel_more (more_push w _) h.bsz hR, ?_⟩ ?_ ?_ ?_
  · exact ⟨Rows_of_heap (blk_push w c e) (fun i v hi => by simpa using hi), c, blk_push w c e⟩
  · exact List.nodup_cons.2 ⟨fun hb => Nat.lt_irrefl _ (hs _ hb).2.1, hF⟩
  · intro b hb
    rcases List.mem_cons.1 hb with rfl | hb
    · exact ⟨fun hB => Nat.lt_irrefl _ (h.bsz _ hB), fun hlt => absurd (Nat.lt_of_lt_of_le hlt h.size) (Nat.lt_irrefl _)⟩
    · exact ⟨(hs b hb).1, (hs b hb).2.2⟩
  · intro b hb m d' hm
    rcases List.mem_cons.1 hb with rfl | hb
    · exact heap_fresh h hm
    · exact hap b hb m d' hm

theorem run_zero {P : Program} {t : TypeId} {z : Value} (hz : (P.info? t).bind (·.zero) = some z) (w : World) : (zeroValue t).run P w = .ok z w := by
  cases hi : P.info? t with
  | none => rw [hi] at hz; cases hz
  | some i =>
    rw [hi] at hz
    have hz : i.zero = some z := hz
    simp [zeroValue, typeInfo, hi, hz]

theorem op_alloc (h : Inv X st a w B G) {o : Oper} {t : TypeId} (ho : o.op = .alloc t) {Γ : Nat → Option CSem} {dst : Nat} {r : ORes} (he : evalOp X.P Γ (look st) E dst (.alloc t) o.type = some r) {x : r.α} (_hx : r.run = some x) :
    Does X st a w o (r.out x).ev (r.out x).upd := by
  simp only [evalOp] at he
  obtain ⟨d, hd, rfl⟩ := Option.map_eq_some_iff.1 he
  obtain ⟨hp, z, hz, hR⟩ := zeroD_ok (w := w) (B := B) hd
  refine Does.value (w' := { w with heap := w.heap.push (.cells z.cells t) }) (v := .pointer (some ⟨w.heap.size, 0, none⟩)) ?_
    (h.newVar (nameOf_even dst 0) t hR (by simp) (by simp) (by simp)) (loc_new rfl)
  simp [execOp, ho, Instr.alloc, run_zero hz, Go.newVar, Go.newRow]

theorem op_box (h : Inv X st a w B G) (hE : EOk X st a w B G E) {o : Oper} {t : TypeId} {z : Operand} (ho : o.op = .box t z) {Γ : Nat → Option CSem} {dst : Nat} {r : ORes} (he : evalOp X.P Γ (look st) E dst (.box t z) o.type = some r) {x : r.α} (hx : r.run = some x) :
    Does X st a w o (r.out x).ev (r.out x).upd := by
  simp only [evalOp] at he
  obtain ⟨ez, hez, he⟩ := bind_some he
  obtain ⟨ez', hfz, he⟩ := bind_some he
  obtain ⟨⟨y, U⟩, hy, he⟩ := bind_some he
  split at he
  · obtain rfl := Option.some.inj he
    obtain ⟨B', G', F, hI, hv, hB, hF, hFs, hFap, _, _⟩ := mv_ok h (fix_ok (hE z ez hez) hfz) hy hx
    have hnew := hI.newVar (nameOf_even dst 0) (d := ⟨y.ty, x⟩) t hv.1 hF hFs hFap
    rw [← applyU_append] at hnew
    have hloc := loc_new (w := { w with heap := w.heap.push (.cells (a.eval z).cells t) }) (B := B') (G := G') (tv := tv a) (st := applyU U st) (n := nameOf dst 0) (d := ⟨y.ty, x⟩) (g := ⟨some (w.heap.size, 0), (a.eval z).cells.toList, F⟩) rfl
    rw [← applyU_append] at hloc
    refine Does.value (v := .pointer (some ⟨w.heap.size, 0, none⟩)) ?_ hnew hloc
    simp [execOp, ho, Instr.box, Go.newVar, Go.newRow]
  · cases he

/-- a new row -/
theorem Inv.newRow (h : Inv X st a w B G) {n : Nat} (hn : n % 2 = 0) {e : Ty} (hp : e.pure = true) {xs : List (T e)} {c : Array Value} {cap : Nat} (et : TypeId) (hR : RelL (Rel w B e) xs (c.toList.take (xs.length * e.size)) [])
    (hcap : xs.length ≤ cap) (hmax : cap ≤ maxLen) (hsz : c.size = cap * e.size) (w' : World) (hw : w' = { w with heap := w.heap.push (.cells c et), drawn := w'.drawn }) :
    ∃ g, Inv X (applyU [(n, .new ⟨.own e, xs⟩)] st) a w' B (setG G n g) ∧ EVR (tv a) w' B (setG G n g) (look (applyU [(n, .new ⟨.own e, xs⟩)] st)) (.at_ n []) (.slice (some ⟨w.heap.size, 0, none⟩) xs.length cap) := by
  refine ⟨⟨none, [.slice (some ⟨w.heap.size, 0, none⟩) xs.length cap], [w.heap.size]⟩, ?_, at_new (by simp [Value.cells]) (by simp [Value.cells, Ty.size]) rfl⟩
  have hm : More w w' := by rw [hw]; exact (more_push w _).of_drawn _
  refine h.newPl hm.size hm.rest (fun b hb _ => hm.same b hb) hn ⟨?_, trivial⟩ (by simp [PG.blocks]) ?_ ?_
  · refine ⟨_, rfl, .inr ⟨w.heap.size, cap, c, [], rfl, hcap, hmax, ?_, hsz, ?_, rfl⟩⟩
    · rw [hw]; exact blk_push w c et
    · exact RelL_mono (fun x cs F hx => Rel_more hm h.bsz hx) _ _ _ hR
  · intro b hb
    have : b = w.heap.size := by simpa [PG.blocks] using hb
    subst this
    exact ⟨fun hB => Nat.lt_irrefl _ (h.bsz _ hB), fun hlt => absurd (Nat.lt_of_lt_of_le hlt h.size) (Nat.lt_irrefl _)⟩
  · intro b hb m d' hm
    have : b = w.heap.size := by simpa [PG.blocks] using hb
    subst this
    exact heap_fresh h hm

end
end
end Go.Pv
