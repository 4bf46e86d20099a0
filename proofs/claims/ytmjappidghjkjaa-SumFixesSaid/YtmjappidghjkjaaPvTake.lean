/- What is owned is given up or handed on: a part of a place is taken out of it. -/
import Derived.Test.YtmjappidghjkjaaPvQuiet4
namespace Go.Pv
noncomputable section
universe u v

theorem RelL_lt {α : Type} {R : α → List Value → List Nat → Prop} {w : World} (h : ∀ x cs F, R x cs F → ∀ b ∈ F, b < w.heap.size) : ∀ xs cs F, RelL R xs cs F → ∀ b ∈ F, b < w.heap.size
  | [], _, _, ⟨_, hF⟩ => by subst hF; simp
  | x :: xs, _, _, ⟨c1, c2, F1, F2, hc, hF, h1, h2⟩ => by
    subst hF
    intro b hb
    rcases List.mem_append.1 hb with hb | hb
    · exact h x c1 F1 h1 b hb
    · exact RelL_lt h xs c2 F2 h2 b hb

theorem OwR_lt {α : Type} {w : World} {sz : Nat} {R : α → List Value → List Nat → Prop} (h : ∀ x cs F, R x cs F → ∀ b ∈ F, b < w.heap.size) {xs : List α} {v : Value} {F : List Nat} (hr : OwR w sz R xs v F) : ∀ b ∈ F, b < w.heap.size := by
  rcases hr with ⟨_, _, rfl⟩ | ⟨b, cap, c, F', _, _, _, hb, _, hl, rfl⟩
  · simp
  · intro x hx
    rcases List.mem_cons.1 hx with rfl | hx
    · exact hb.lt
    · exact RelL_lt h xs _ F' hl x hx

theorem Rel_lt {w : World} {B : Nat → Prop} : ∀ (t : Ty) (x : T t) cs F, Rel w B t x cs F → ∀ b ∈ F, b < w.heap.size
  | .int _, _, _, _, ⟨_, _, h⟩ => by subst h; simp
  | .bool, _, _, _, ⟨_, h⟩ => by subst h; simp
  | .str, _, _, _, ⟨_, _, _, _, h⟩ => by subst h; simp
  | .unit, _, _, _, ⟨_, h⟩ => by subst h; simp
  | .pair a b, x, _, _, ⟨c1, c2, F1, F2, _, hF, h1, h2⟩ => by
    subst hF
    intro y hy
    rcases List.mem_append.1 hy with hy | hy
    · exact Rel_lt a _ _ _ h1 y hy
    · exact Rel_lt b _ _ _ h2 y hy
  | .agg a, x, cs, F, h => Rel_lt a x cs F h
  | .arr n e, xs, cs, F, h => RelL_lt (fun x cs F h => Rel_lt e x cs F h) _ _ _ h.2
  | .slice e, xs, cs, F, h => by have := h.1; subst this; simp
  | .own e, xs, cs, F, ⟨_, _, h⟩ => OwR_lt (fun x cs F h => Rel_lt e x cs F h) h
  | .app e, xs, cs, F, ⟨_, _, h⟩ => by
    rcases h with h | ⟨h, _⟩
    · exact OwR_lt (fun x cs F h => Rel_lt e x cs F h) h
    · subst h; simp
  | .junk, _, _, _, ⟨_, h⟩ => by subst h; simp
  | .ptr t, o, cs, F, h => by have := h.1; subst this; simp
  | .box t, o, cs, F, h => by
    cases o with
    | none => have := h.2; subst this; simp
    | some x =>
      obtain ⟨b, c, F', _, hb, hr, rfl⟩ := h
      intro y hy
      rcases List.mem_cons.1 hy with rfl | hy
      · exact hb.lt
      · exact Rel_lt t x _ _ hr y hy
  | .nils _, _, _, _, ⟨_, h⟩ => by subst h; simp
  | .nilp, _, _, _, ⟨_, h⟩ => by subst h; simp
  | .nili, _, _, _, ⟨_, h⟩ => by subst h; simp
  | .alt u t r, s, cs, F, h => by have := h.1; subst this; simp

section
variable {X : Cx} {st : St} {a : Act} {w : World} {B : Nat → Prop} {G : Nat → PG} {E : Operand → Option EV}

theorem PG.mem_blocks {g : PG} {b : Nat} (h : b ∈ g.F) : b ∈ g.blocks := by
  unfold PG.blocks
  split
  · exact List.mem_cons_of_mem _ h
  · exact h

theorem PG.F_nodup {g : PG} (h : g.blocks.Nodup) : g.F.Nodup := by
  unfold PG.blocks at h
  split at h
  · exact (List.nodup_cons.1 h).2
  · exact h

def setG (G : Nat → PG) (n : Nat) (g : PG) : Nat → PG := fun m => if m = n then g else G m
theorem setG_same (G : Nat → PG) (n : Nat) (g : PG) : setG G n g n = g := by simp [setG]
theorem setG_ne (G : Nat → PG) {n m : Nat} (g : PG) (h : m ≠ n) : setG G n g m = G m := by simp [setG, h]

/-- a part of a place, and what stays behind when another part is put there that lies in the same cells and owns nothing -/
theorem Inv.cut (h : Inv X st a w B G) {n : Nat} {d : Dyn} (hd : lk n st.pl = some d) {p : Path} {y : ODyn} {v : T y.ty} (hg : getP ⟨d.ty, some d.val⟩ p = some y) (hv : y.val = some v) :
    ∃ o mid F2, offP d.ty p = some (o, y.ty) ∧ mid = ((G n).cells.drop o).take y.ty.size ∧ Rel w B y.ty v mid F2 ∧ (∀ b ∈ F2, b ∈ (G n).F) ∧ F2.Nodup ∧
      ∀ (B' : Nat → Prop) (u : Ty) (z : T u) (r : ODyn) (k : T r.ty), (∀ b, B b → B' b) → (∀ b, B' b → B b ∨ b ∈ F2) → sk u = sk y.ty → Rel w B' u z mid [] →
        setP ⟨d.ty, some d.val⟩ p ⟨u, some z⟩ = some r → r.val = some k →
        ∃ G', Inv X (applyU [(n, .keep ⟨r.ty, k⟩)] st) a w B' G' ∧ (∀ m, (G' m).cells = (G m).cells) ∧ (∀ m, (G' m).addr = (G m).addr) ∧ (∀ b ∈ F2, ∀ m d', lk m (applyU [(n, .keep ⟨r.ty, k⟩)] st).pl = some d' → b ∉ (G' m).blocks) ∧
          (∀ m, ∀ b ∈ (G' m).blocks, b ∈ (G m).blocks) ∧ ∀ m, m ≠ n → G' m = G m := by
  obtain ⟨hR, hA⟩ := h.pl n d hd
  obtain ⟨o, pre, mid, post, F1, F2, F3, ho, hc, hl, hF, hm, hrep⟩ := getP_rel p d.ty d.val y v _ _ hg hv hR
  obtain ⟨hnd, hsep⟩ := h.sep n d hd
  have hFn := PG.F_nodup hnd
  rw [hF] at hFn
  have hmid : mid = ((G n).cells.drop o).take y.ty.size := by
    rw [hc, List.append_assoc, List.drop_append_of_le_length (by omega), ← hl, List.drop_length, List.nil_append, ← Rel_length w B _ _ _ _ hm, List.take_left']
    rfl
  have hin : ∀ b ∈ F2, b ∈ (G n).F := fun b hb => by rw [hF]; simp [hb]
  have hn1 := List.nodup_append.1 hFn
  have hn2 := List.nodup_append.1 hn1.1
  have hdis : ∀ b ∈ F2, b ∉ F1 ++ F3 := by
    intro b hb hm
    rcases List.mem_append.1 hm with hm | hm
    · exact hn2.2.2 b hm b hb rfl
    · exact hn1.2.2 b (List.mem_append.2 (.inr hb)) b hm rfl
  refine ⟨o, mid, F2, ho, hmid, hm, hin, hn2.2.1, fun B' u z r k hB1 hB2 hsk hz hset hk => ?_⟩
  have hsub : (F1 ++ F3).Sublist (F1 ++ F2 ++ F3) := by
    rw [List.append_assoc]; exact (List.Sublist.refl F1).append (List.sublist_append_right F2 F3)
  let g' : PG := { addr := (G n).addr, cells := (G n).cells, F := F1 ++ F3 }
  have hbl : g'.blocks.Sublist (G n).blocks := by
    unfold PG.blocks
    show (match (G n).addr with | some a => a.1 :: (F1 ++ F3) | none => F1 ++ F3).Sublist _
    cases (G n).addr with
    | none => simp [hF]
    | some q => simp [hF]
  have haddr : ∀ b ∈ F2, b ∉ g'.blocks := by
    intro b hb hm
    unfold PG.blocks at hm
    have hm : b ∈ (match (G n).addr with | some a => a.1 :: (F1 ++ F3) | none => F1 ++ F3) := hm
    cases hq : (G n).addr with
    | none => rw [hq] at hm; exact hdis b hb hm
    | some q =>
      rw [hq] at hm
      rcases List.mem_cons.1 hm with hm | hm
      · unfold PG.blocks at hnd
        rw [hq] at hnd
        exact (List.nodup_cons.1 hnd).1 (hm ▸ hin b hb)
      · exact hdis b hb hm
  have hpl' : ∀ m d', lk m (applyU [(n, .keep ⟨r.ty, k⟩)] st).pl = some d' → (m = n ∧ d' = ⟨r.ty, k⟩) ∨ (m ≠ n ∧ lk m st.pl = some d') := by
    intro m d' hm
    have hm : lk m (Pv.put n (⟨r.ty, k⟩ : Dyn) st.pl) = some d' := hm
    rw [lk_put] at hm
    split at hm
    · rename_i e; exact .inl ⟨e, (Option.some.inj hm).symm⟩
    · rename_i e; exact .inr ⟨e, hm⟩
  have hblk : ∀ m, ∀ b ∈ (setG G n g' m).blocks, b ∈ (G m).blocks := by
    intro m b hb
    by_cases e : m = n
    · subst e; rw [setG_same] at hb; exact hbl.subset hb
    · rw [setG_ne G g' e] at hb; exact hb
  have hskr : sk r.ty = sk d.ty := setP_sk p ⟨d.ty, some d.val⟩ y ⟨u, some z⟩ r hg hset hsk
  refine ⟨setG G n g', ?_, ?_, ?_, ?_, hblk, fun m e => setG_ne G g' e⟩
  · refine h.move [(n, .keep ⟨r.ty, k⟩)] w B' (setG G n g') (Nat.le_refl _) ⟨rfl, rfl, rfl⟩ (fun b hb => ⟨rfl, hB1 b hb⟩) ?_ ?_ (fun _ _ _ => rfl) ?_ ?_ ?_ ?_ ?_ (fun _ _ _ _ _ _ _ => rfl) (by simp [Upd.isDel])
    · intro b hb
      rcases hB2 b hb with hb | hb
      · exact h.bsz b hb
      · exact Rel_lt _ _ _ _ hR b (hin b hb)
    · intro b hb hb'
      rcases hB2 b hb' with hb' | hb'
      · exact .inl hb'
      · exact .inr ((hsep b (PG.mem_blocks (hin b hb'))).2 hb)
    · intro m d' hm
      rcases hpl' m d' hm with ⟨rfl, rfl⟩ | ⟨hne, hm⟩
      · rw [setG_same]
        refine ⟨⟨?_, ?_⟩, hbl.nodup hnd, ?_⟩
        · have := hrep w B' (fun _ _ => rfl) hB1 (fun _ _ => rfl) u z mid [] r k hz hset hk
          show Rel w B' r.ty k (G m).cells (F1 ++ F3)
          rw [hc]; simpa using this
        · exact hA
        · intro b hb
          have hb' := hbl.subset hb
          refine ⟨fun hB => ?_, (hsep b hb').2⟩
          rcases hB2 b hB with hB | hB
          · exact (hsep b hb').1 hB
          · exact haddr b hB hb
      · rw [setG_ne G g' hne]
        obtain ⟨⟨h1, h2⟩, h3⟩ := And.intro (h.pl m d' hm) (h.sep m d' hm)
        refine ⟨⟨Rel_same (fun _ _ => rfl) hB1 _ _ _ _ h1 (fun _ _ => rfl), h2⟩, h3.1, fun b hb => ⟨fun hB => ?_, (h3.2 b hb).2⟩⟩
        rcases hB2 b hB with hB | hB
        · exact (h3.2 b hb).1 hB
        · exact h.apart m n d' d hm hd hne b hb (PG.mem_blocks (hin b hB))
    · intro m m' d1 d2 h1 h2 hne b hb hb'
      have e1 : ∃ d, lk m st.pl = some d := by
        rcases hpl' m d1 h1 with ⟨rfl, _⟩ | ⟨_, h⟩
        · exact ⟨d, hd⟩
        · exact ⟨_, h⟩
      have e2 : ∃ d, lk m' st.pl = some d := by
        rcases hpl' m' d2 h2 with ⟨rfl, _⟩ | ⟨_, h⟩
        · exact ⟨d, hd⟩
        · exact ⟨_, h⟩
      obtain ⟨x1, e1⟩ := e1
      obtain ⟨x2, e2⟩ := e2
      exact h.apart m m' x1 x2 e1 e2 hne b (hblk m b hb) (hblk m' b hb')
    · intro m hm
      exact setG_ne G g' (by simpa [updNames] using hm)
    · intro u' hu'
      have : u' = (n, .keep ⟨r.ty, k⟩) := by simpa using hu'
      subst this
      right
      simp only [setG_same]
      exact ⟨rfl, ⟨d, ⟨r.ty, k⟩, hd, by show lk n (Pv.put n _ st.pl) = _; rw [lk_put]; simp, hskr⟩, .inr (.inl rfl)⟩
    · intro k' d' hk'
      rcases hpl' _ d' hk' with ⟨e, rfl⟩ | ⟨hne, hm⟩
      · subst e
        rw [setG_same]
        obtain ⟨b, o', s, h1, h2, h3⟩ := h.obj k' d hd
        exact ⟨b, o', s, h1, h2, by show r.ty.size = s; rw [size_of_sk hskr, h3]⟩
      · rw [setG_ne G g' hne]
        exact h.obj k' d' hm
  · intro m
    by_cases e : m = n
    · subst e; rw [setG_same]
    · rw [setG_ne G g' e]
  · intro m
    by_cases e : m = n
    · subst e; rw [setG_same]
    · rw [setG_ne G g' e]
  · intro b hb m d' hm hbm
    rcases hpl' m d' hm with ⟨rfl, rfl⟩ | ⟨hne, hm⟩
    · rw [setG_same] at hbm
      exact haddr b hb hbm
    · rw [setG_ne G g' hne] at hbm
      exact h.apart m n d' d hm hd hne b hbm (PG.mem_blocks (hin b hb))

/-- slots stay as they are where only data of places has changed -/
theorem EVR_keep {tv : Nat → Value} {w w' : World} {B B' : Nat → Prop} {G G' : Nat → PG} {L L' : Look} (hB : ∀ b, B b → Same w w' b ∧ B' b) (hc : ∀ m, (G' m).cells = (G m).cells) (ha : ∀ m, (G' m).addr = (G m).addr)
    (hL : ∀ m d, L m = some d → ∃ d', L' m = some d' ∧ sk d'.ty = sk d.ty) {e : EV} {v : Value} (h : EVR tv w B G L e v) : EVR tv w' B' G' L' e v :=
  EVR_mono hB e v h (fun m _ => ⟨hL m, ha m⟩) (fun m _ => hc m)

theorem look_keep {st : St} {n : Nat} {d r : Dyn} (hd : lk n st.pl = some d) (hs : sk r.ty = sk d.ty) : ∀ m d0, look st m = some d0 → ∃ d', look (applyU [(n, .keep r)] st) m = some d' ∧ sk d'.ty = sk d0.ty := by
  intro m d0 hm
  show ∃ d', lk m (put n r st.pl) = some d' ∧ _
  rw [lk_put]
  split
  · rename_i e
    subst e
    have hm : lk m st.pl = some d0 := hm
    rw [hd] at hm
    obtain rfl := Option.some.inj hm
    exact ⟨r, rfl, hs⟩
  · exact ⟨d0, hm, rfl⟩

theorem sk_frz : ∀ t : Ty, sk (frz t) = sk t
  | .pair a b => by simp [frz, sk, sk_frz a, sk_frz b]
  | .agg a => by simp [frz, sk, sk_frz a]
  | .arr _ _ => rfl
  | .int _ => rfl
  | .bool => rfl
  | .str => rfl
  | .unit => rfl
  | .slice _ => rfl
  | .app _ => rfl
  | .own _ => rfl
  | .junk => rfl
  | .ptr _ => rfl
  | .box _ => rfl
  | .nils _ => rfl
  | .nilp => rfl
  | .nili => rfl
  | .alt _ _ _ => rfl

/-- what a slot holds, with nothing owned -/
theorem take_ok (h : Inv X st a w B G) {e : EV} {v : Value} (he : EVR (tv a) w B G (look st) e v) {y : ODyn} {U : Upds} (ht : e.take (look st) = some (y, U)) {x : T y.ty} (hx : y.val = some x) :
    ∃ B' G', Inv X (applyU U st) a w B' G' ∧ y.ty.pure = true ∧ VR w B' y.ty x v [] ∧ (∀ b, B b → B' b) ∧ (∀ n d, n ∉ updNames U → lk n st.pl = some d → lk n (applyU U st).pl = some d ∧ G' n = G n) ∧
      ∀ e' v', EVR (tv a) w B G (look st) e' v' → EVR (tv a) w B' G' (look (applyU U st)) e' v' := by
  have triv : U = [] → y.ty.pure = true → VR w B y.ty x v [] → ∃ B' G', Inv X (applyU U st) a w B' G' ∧ y.ty.pure = true ∧ VR w B' y.ty x v [] ∧ (∀ b, B b → B' b) ∧ (∀ n d, n ∉ updNames U → lk n st.pl = some d → lk n (applyU U st).pl = some d ∧ G' n = G n) ∧
      ∀ e' v', EVR (tv a) w B G (look st) e' v' → EVR (tv a) w B' G' (look (applyU U st)) e' v' := by
    intro hU hp hv
    subst hU
    exact ⟨B, G, h, hp, hv, fun _ h => h, fun _ _ _ h => ⟨h, rfl⟩, fun _ _ h => h⟩
  cases e with
  | val d =>
    simp only [EV.take, Option.some.injEq, Prod.mk.injEq] at ht
    obtain ⟨rfl, hU⟩ := ht
    obtain rfl := Option.some.inj hx
    simp only [EVR] at he
    exact triv hU.symm he.1 he.2
  | clip e xs =>
    obtain ⟨F, hv⟩ := rd_ok h he (t := .slice e) (x := xs) rfl
    simp only [EV.take, Option.some.injEq, Prod.mk.injEq] at ht
    obtain ⟨rfl, hU⟩ := ht
    obtain rfl := Option.some.inj hx
    simp only [EVR] at he
    have hp : (Ty.slice e).pure = true := he.1
    obtain rfl := Rel_pure w B _ _ _ F hp hv.1
    exact triv hU.symm hp hv
  | at_ n p =>
    simp only [EV.take] at ht
    obtain ⟨d, hd, ht⟩ := bind_some ht
    obtain ⟨y0, hy0, ht⟩ := bind_some ht
    split at ht
    · rename_i hp
      simp only [Option.some.injEq, Prod.mk.injEq] at ht
      obtain ⟨rfl, hU⟩ := ht
      obtain ⟨F, hv⟩ := rd_ok h he (t := y0.ty) (x := x) (by simp only [EV.rd, hd, Option.bind_some, hy0]; rw [← hx])
      obtain rfl := Rel_pure w B _ _ _ F hp hv.1
      exact triv hU.symm hp hv
    · split at ht
      · rename_i hp
        obtain ⟨d', hd', ht⟩ := bind_some ht
        split at ht
        · rename_i v' hv'
          simp only [Option.some.injEq, Prod.mk.injEq] at ht
          obtain ⟨rfl, rfl⟩ := ht
          obtain ⟨x0, hx0, hxx⟩ := Option.map_eq_some_iff.1 hx
          obtain ⟨o, mid, F2, ho, hmid, hm, hin, hnd, hrep⟩ := h.cut hd hy0 hx0
          simp only [EVR] at he
          obtain ⟨d1, o1, u1, hd1, ho1, hvc, hva⟩ := he
          rw [hd] at hd1
          obtain rfl := Option.some.inj hd1
          rw [ho] at ho1
          simp only [Option.some.injEq, Prod.mk.injEq] at ho1
          obtain ⟨rfl, rfl⟩ := ho1
          have hz := Rel_frz y0.ty x0 mid F2 hp hm
          obtain ⟨G', hI, hc, ha, _, _, hgn⟩ := hrep (fun b => B b ∨ b ∈ F2) (frz y0.ty) (frzV y0.ty x0) d' v' (fun _ h => .inl h) (fun _ h => h) (sk_frz _) hz
            (by rw [hx0] at hd'; exact hd') hv'
          subst hxx
          refine ⟨_, G', hI, hp, ⟨?_, ?_⟩, fun _ h => .inl h, fun m dm hm hdm => ⟨by rw [applyU_pl_other _ _ _ hm]; exact hdm, hgn m (by simpa [updNames] using hm)⟩, fun e' v' h' => ?_⟩
          · rw [hvc, ← hmid]; exact hz
          · show Value.agg? v = (frz y0.ty).isAgg
            rw [hva, agg_of_sk (sk_frz y0.ty)]
          · refine EVR_keep (fun b hb => ⟨rfl, .inl hb⟩) hc ha (look_keep hd ?_) h'
            exact setP_sk p ⟨d.ty, some d.val⟩ y0 ⟨frz y0.ty, y0.val.map (frzV y0.ty)⟩ d' hy0 hd' (sk_frz _)
        · cases ht
      · cases ht
  | _ => cases ht

/-- as above, and what is owned is handed on -/
theorem mv_ok (h : Inv X st a w B G) {e : EV} {v : Value} (he : EVR (tv a) w B G (look st) e v) {y : ODyn} {U : Upds} (ht : e.mv (look st) = some (y, U)) {x : T y.ty} (hx : y.val = some x) :
    ∃ B' G' F, Inv X (applyU U st) a w B' G' ∧ VR w B' y.ty x v F ∧ (∀ b, B b → B' b) ∧ F.Nodup ∧ (∀ b ∈ F, ¬ B' b ∧ b < w.heap.size ∧ (b < X.w0.heap.size → b ∈ X.ob)) ∧
      (∀ b ∈ F, ∀ m d, lk m (applyU U st).pl = some d → b ∉ (G' m).blocks) ∧
      (∀ n d, n ∉ updNames U → lk n st.pl = some d → lk n (applyU U st).pl = some d ∧ G' n = G n) ∧
      ∀ e' v', EVR (tv a) w B G (look st) e' v' → (∀ m ∈ updNames U, e'.hits m true = false) → EVR (tv a) w B' G' (look (applyU U st)) e' v' := by
  have viaTake : ∀ {y : ODyn} {U : Upds} {x : T y.ty}, e.take (look st) = some (y, U) → y.val = some x → 
    ∃ B' G' F, Inv X (applyU U st) a w B' G' ∧ VR w B' y.ty x v F ∧ (∀ b, B b → B' b) ∧ F.Nodup ∧ (∀ b ∈ F, ¬ B' b ∧ b < w.heap.size ∧ (b < X.w0.heap.size → b ∈ X.ob)) ∧
      (∀ b ∈ F, ∀ m d, lk m (applyU U st).pl = some d → b ∉ (G' m).blocks) ∧
      (∀ n d, n ∉ updNames U → lk n st.pl = some d → lk n (applyU U st).pl = some d ∧ G' n = G n) ∧
      ∀ e' v', EVR (tv a) w B G (look st) e' v' → (∀ m ∈ updNames U, e'.hits m true = false) → EVR (tv a) w B' G' (look (applyU U st)) e' v' := by
    intro y U x ht hx
    obtain ⟨B', G', hI, _, hv, hB, ho, hE⟩ := take_ok h he ht hx
    exact ⟨B', G', [], hI, hv, hB, by simp, by simp, by simp, ho, fun e' v' h' _ => hE e' v' h'⟩
  cases e with
  | at_ n p =>
    cases p with
    | nil =>
      simp only [EV.mv] at ht
      obtain ⟨d, hd, ht⟩ := bind_some ht
      obtain ⟨F, hv⟩ := rd_ok h he (t := d.ty) (x := d.val) (by simp only [EV.rd, hd, Option.bind_some, getP])
      split at ht
      · rename_i hp
        simp only [Option.some.injEq, Prod.mk.injEq] at ht
        obtain ⟨rfl, rfl⟩ := ht
        obtain rfl := Option.some.inj hx
        obtain rfl := Rel_pure w B _ _ _ F hp hv.1
        exact ⟨B, G, [], h, hv, fun _ h => h, by simp, by simp, by simp, fun _ _ _ h => ⟨h, rfl⟩, fun _ _ h _ => h⟩
      split at ht
      rotate_left
      · cases ht
      · rename_i heven
        have heven := Nat.eq_of_beq_eq_true heven
        simp only [Option.some.injEq, Prod.mk.injEq] at ht
        obtain ⟨rfl, rfl⟩ := ht
        obtain rfl := Option.some.inj hx
        have hd : lk n st.pl = some d := hd
        simp only [EVR] at he
        obtain ⟨d1, o1, u1, hd1, ho1, hvc, hva⟩ := he
        have hd1 : lk n st.pl = some d1 := hd1
        rw [hd] at hd1
        obtain rfl := Option.some.inj hd1
        simp only [offP, Option.some.injEq, Prod.mk.injEq] at ho1
        obtain ⟨rfl, rfl⟩ := ho1
        obtain ⟨hR, hA⟩ := h.pl n d hd
        obtain ⟨hnd, hsep⟩ := h.sep n d hd
        have hpl : ∀ m d', lk m (applyU [(n, .del)] st).pl = some d' → m ≠ n ∧ lk m st.pl = some d' := by
          intro m d' hm
          have hm : lk m (rmv n st.pl) = some d' := hm
          rw [lk_rmv] at hm
          split at hm
          · cases hm
          · rename_i e; exact ⟨e, hm⟩
        refine ⟨B, G, (G n).F, ?_, ⟨?_, hva⟩, fun _ h => h, PG.F_nodup hnd, ?_, ?_, ?_, ?_⟩
        · refine h.move [(n, .del)] w B G (Nat.le_refl _) ⟨rfl, rfl, rfl⟩ (fun b hb => ⟨rfl, hb⟩) h.bsz (fun _ _ h => .inl h) (fun _ _ _ => rfl) ?_ ?_ (fun _ _ => rfl) ?_ ?_ (fun _ _ _ _ _ _ _ => rfl) (by intro u hu _; rw [List.mem_singleton] at hu; rw [hu]; exact heven)
          · intro m d' hm
            exact ⟨h.pl m d' (hpl m d' hm).2, h.sep m d' (hpl m d' hm).2⟩
          · intro m m' d1 d2 h1 h2 hne
            exact h.apart m m' d1 d2 (hpl _ _ h1).2 (hpl _ _ h2).2 hne
          · intro u hu
            have : u = (n, .del) := by simpa using hu
            subst this
            exact .inl rfl
          · intro k d' hk
            exact h.obj k d' (hpl _ _ hk).2
        · rw [hvc]
          have := Rel_length w B _ _ _ _ hR
          rw [List.drop_zero, ← this, List.take_length]
          exact hR
        · intro b hb
          exact ⟨(hsep b (PG.mem_blocks hb)).1, Rel_lt _ _ _ _ hR b hb, (hsep b (PG.mem_blocks hb)).2⟩
        · intro b hb m d' hm hbm
          obtain ⟨hne, hm⟩ := hpl m d' hm
          exact h.apart m n d' d hm hd hne b hbm (PG.mem_blocks hb)
        · intro m dm hm hdm
          rw [applyU_pl_other _ _ _ hm]
          exact ⟨hdm, rfl⟩
        · intro e' v' h' hno
          have hno := hno n (by simp [updNames])
          refine EVR_mono (fun b hb => ⟨rfl, hb⟩) e' v' h' (fun m hm => ⟨fun d0 hd0 => ⟨d0, ?_, rfl⟩, rfl⟩) (fun _ _ => rfl)
          show lk m (rmv n st.pl) = some d0
          rw [lk_rmv]
          split
          · rename_i e; subst e; rw [hno] at hm; cases hm
          · exact hd0
    | cons s p => exact viaTake ht hx
  | _ => exact viaTake ht hx

end
end
end Go.Pv
