/- A call by its contract: what is handed over, and what comes back. -/
import Derived.Test.YtmjappidghjkjaaPvCall
namespace Go.Pv
noncomputable section
universe u v

section
variable {X : Cx} {st : St} {a : Act} {w : World} {B : Nat → Prop} {G : Nat → PG} {E : Operand → Option EV}

/-- an object that is handed over: a part of a place -/
def GoodO (w : World) (B : Nat → Prop) (G : Nat → PG) (L : Look) (np : Nat × Path) (x : Dyn × PG) : Prop :=
  ∃ dn o b off c pre post F1 F3, L np.1 = some dn ∧ getP ⟨dn.ty, some dn.val⟩ np.2 = some ⟨x.1.ty, some x.1.val⟩ ∧ (G np.1).addr = some (b, off) ∧ Blk w b c ∧ (G np.1).cells = pre ++ x.2.cells ++ post ∧ pre.length = o ∧
    (G np.1).F = F1 ++ x.2.F ++ F3 ∧ x.2.addr = some (b, off + o) ∧ Rel w B x.1.ty x.1.val x.2.cells x.2.F ∧
    ∀ (w' : World) (B' : Nat → Prop), (∀ b, B b → Same w w' b) → (∀ b, B b → B' b) → (∀ b ∈ F1 ++ F3, Same w w' b) →
      ∀ (u : Ty) (z : T u) mid' F2' (r : ODyn) (k : T r.ty), Rel w' B' u z mid' F2' → setP ⟨dn.ty, some dn.val⟩ np.2 ⟨u, some z⟩ = some r → r.val = some k → Rel w' B' r.ty k (pre ++ mid' ++ post) (F1 ++ F2' ++ F3)

def GoodL (w : World) (B : Nat → Prop) (G : Nat → PG) (L : Look) : List (Nat × Path) → Obs → Prop
  | [], obs => obs = []
  | np :: os, obs => ∃ x obs', obs = x :: obs' ∧ GoodO w B G L np x ∧ GoodL w B G L os obs'

theorem AR.good (h : Inv X st a w B G) : ∀ (avs : List AV) (os : List (Nat × Path)) (vs : List Value), AR w B G (look st) avs os vs → ∃ obs, GoodL w B G (look st) os obs ∧ ARel w B avs obs vs
  | [], os, vs, ⟨h1, h2⟩ => ⟨[], by subst h1; rfl, rfl, h2⟩
  | .val d :: l, os, _, ⟨v, r, h1, h2, h3, h4⟩ => by
    obtain ⟨obs, k1, k2⟩ := AR.good h l os r h4
    exact ⟨obs, k1, v, r, h1, h2, h3, k2⟩
  | .ref d :: l, os, _, ⟨v, r, h1, h2, h4⟩ => by
    obtain ⟨obs, k1, k2⟩ := AR.good h l os r h4
    exact ⟨obs, k1, v, r, h1, h2, k2⟩
  | .fn f caps :: l, os, _, ⟨v, r, h1, h2, h3, h4⟩ => by
    obtain ⟨obs, k1, k2⟩ := AR.good h l os r h4
    exact ⟨obs, k1, v, r, h1, h2, h3, k2⟩
  | .obj d :: l, _, _, ⟨v, r, n, p, os', h1, h2, ⟨dn, o, b, off, hd, hget, ho, hg, hv⟩, h4⟩ => by
    subst h2
    obtain ⟨obs, k1, k2⟩ := AR.good h l os' r h4
    obtain ⟨hR, hA⟩ := h.pl n dn hd
    rw [hg] at hA
    obtain ⟨hrows, c, hblk⟩ := hA
    obtain ⟨o', pre, mid, post, F1, F2, F3, ho', hc, hl, hF, hm, hrep⟩ := getP_rel p dn.ty dn.val _ d.val _ _ hget rfl hR
    rw [ho] at ho'
    simp only [Option.some.injEq, Prod.mk.injEq, and_true] at ho'
    subst ho'
    refine ⟨(d, ⟨some (b, off + o), mid, F2⟩) :: obs, ⟨_, _, rfl, ⟨dn, o, b, off, c, pre, post, F1, F3, hd, hget, hg, hblk, hc, hl, hF, rfl, hm, hrep⟩, k1⟩, v, r, _, obs, h1, rfl, ⟨b, off + o, rfl, hv⟩, k2⟩

theorem GoodO.blocks {np : Nat × Path} {x : Dyn × PG} (hg : GoodO w B G (look st) np x) : ∀ b ∈ x.2.blocks, b ∈ (G np.1).blocks := by
  obtain ⟨dn, o, b0, off, c, pre, post, F1, F3, hd, hget, hga, hblk, hc, hl, hF, hxa, hm, hrep⟩ := hg
  intro b hb
  unfold PG.blocks at hb ⊢
  rw [hxa] at hb
  rw [hga]
  rcases List.mem_cons.1 hb with rfl | hb
  · simp
  · simp [hF, hb]

theorem GoodO.nodup (h : Inv X st a w B G) {np : Nat × Path} {x : Dyn × PG} (hg : GoodO w B G (look st) np x) : x.2.blocks.Nodup := by
  obtain ⟨dn, o, b0, off, c, pre, post, F1, F3, hd, hget, hga, hblk, hc, hl, hF, hxa, hm, hrep⟩ := hg
  have hnd := (h.sep np.1 dn hd).1
  unfold PG.blocks at hnd ⊢
  rw [hga, hF] at hnd
  rw [hxa]
  refine hnd.sublist (List.Sublist.cons_cons _ ?_)
  rw [List.append_assoc]
  exact (List.sublist_append_left x.2.F F3).trans (List.sublist_append_right F1 _)

theorem GoodL.mem : ∀ {os : List (Nat × Path)} {obs : Obs}, GoodL w B G (look st) os obs → ∀ x ∈ obs, ∃ np ∈ os, GoodO w B G (look st) np x
  | [], _, h, x, hx => by have h : _ = [] := h; subst h; cases hx
  | np :: os, _, ⟨y, obs', h1, h2, h3⟩, x, hx => by
    subst h1
    rcases List.mem_cons.1 hx with rfl | hx
    · exact ⟨np, by simp, h2⟩
    · obtain ⟨np', k1, k2⟩ := GoodL.mem h3 x hx
      exact ⟨np', by simp [k1], k2⟩

theorem nodupN_ok : ∀ (l : List Nat), nodupN l = true → l.Nodup
  | [], _ => List.nodup_nil
  | n :: r, h => by
    simp only [nodupN, Bool.and_eq_true, Bool.not_eq_true'] at h
    refine List.nodup_cons.2 ⟨fun hm => ?_, nodupN_ok r h.2⟩
    have := List.any_eq_false.1 h.1 n hm
    simp at this

theorem Obs.mem_ob {os : Obs} {b : Nat} : b ∈ os.ob ↔ ∃ x ∈ os, b ∈ x.2.blocks := by
  unfold Obs.ob; exact List.mem_flatMap

theorem GoodL.nd (h : Inv X st a w B G) : ∀ {os : List (Nat × Path)} {obs : Obs}, GoodL w B G (look st) os obs → (os.map (·.1)).Nodup → obs.ob.Nodup
  | [], _, hg, _ => by have hg : _ = [] := hg; subst hg; exact List.nodup_nil
  | np :: os, _, ⟨x, obs', h1, h2, h3⟩, hn => by
    subst h1
    simp only [List.map_cons, List.nodup_cons] at hn
    show (x.2.blocks ++ Obs.ob obs').Nodup
    refine List.nodup_append.2 ⟨h2.nodup h, GoodL.nd h h3 hn.2, fun b hb b' hb' e => ?_⟩
    subst e
    obtain ⟨y, hy, hby⟩ := Obs.mem_ob.1 hb'
    obtain ⟨np', hnp', hgy⟩ := GoodL.mem h3 y hy
    have e1 : ∃ d, lk np.1 st.pl = some d := by obtain ⟨dn, _, _, _, _, _, _, _, _, hd, _⟩ := h2; exact ⟨dn, hd⟩
    have e2 : ∃ d, lk np'.1 st.pl = some d := by obtain ⟨dn, _, _, _, _, _, _, _, _, hd, _⟩ := hgy; exact ⟨dn, hd⟩
    obtain ⟨d1, e1⟩ := e1
    obtain ⟨d2, e2⟩ := e2
    refine h.apart np.1 np'.1 d1 d2 e1 e2 (fun e => hn.1 ?_) b (h2.blocks b hb) (hgy.blocks b hby)
    rw [e]; exact List.mem_map.2 ⟨np', hnp', rfl⟩

theorem GoodL.ent (h : Inv X st a w B G) {os : List (Nat × Path)} {obs : Obs} (hg : GoodL w B G (look st) os obs) (hn : (os.map (·.1)).Nodup) (hz : ∀ x ∈ obs, x.1.ty.size ≠ 0) : Ent w B obs := by
  refine ⟨h.bsz, fun x hx => ?_, fun x hx => ?_, fun x hx b hb => ?_, GoodL.nd h hg hn⟩
  · obtain ⟨np, _, hgo⟩ := hg.mem x hx
    obtain ⟨dn, o, b0, off, c, pre, post, F1, F3, hd, hget, hga, hblk, hc, hl, hF, hxa, hm, hrep⟩ := hgo
    obtain ⟨hR, hA⟩ := h.pl np.1 dn hd
    rw [hga] at hA
    refine ⟨hm, ?_⟩
    rw [hxa]
    refine ⟨fun i v hi => ?_, c, hblk⟩
    have := hA.1 (o + i) v (by
      rw [hc, List.append_assoc, List.getElem?_append_right (by omega), hl, Nat.add_sub_cancel_left, List.getElem?_append_left (List.getElem?_eq_some_iff.1 hi).1]
      exact hi)
    simpa [Nat.add_assoc] using this
  · obtain ⟨np, _, hgo⟩ := hg.mem x hx
    obtain ⟨dn, o, b0, off, c, pre, post, F1, F3, hd, hget, hga, hblk, hc, hl, hF, hxa, hm, hrep⟩ := hgo
    exact ⟨_, hxa⟩
  · obtain ⟨np, _, hgo⟩ := hg.mem x hx
    have hb2 := hgo.blocks b hb
    obtain ⟨dn, o, b0, off, c, pre, post, F1, F3, hd, _⟩ := hgo
    exact ((h.sep np.1 dn hd).2 b hb2).1

/-- a path of fields can always be written -/
theorem setF_has : ∀ (t : Ty) (x : T t) (i : Nat) (y : ODyn) (u : Ty) (z : T u), getF t (some x) i = some y → ∃ r k, setF t (some x) i ⟨u, some z⟩ = some ⟨r, some k⟩
  | .pair a b, x, 0, y, u, z, _ => ⟨.pair u b, (z, x.2), rfl⟩
  | .pair a b, x, i + 1, y, u, z, h => by
    obtain ⟨r, k, hr⟩ := setF_has b x.2 i y u z (by simpa only [getF, Option.map_some] using h)
    exact ⟨.pair a r, (x.1, k), by simp only [setF, Option.map_some]; rw [hr]; rfl⟩
  | .int _, _, _, _, _, _, h => by simp [getF] at h
  | .bool, _, _, _, _, _, h => by simp [getF] at h
  | .str, _, _, _, _, _, h => by simp [getF] at h
  | .unit, _, _, _, _, _, h => by simp [getF] at h
  | .agg _, _, _, _, _, _, h => by simp [getF] at h
  | .arr _ _, _, _, _, _, _, h => by simp [getF] at h
  | .slice _, _, _, _, _, _, h => by simp [getF] at h
  | .own _, _, _, _, _, _, h => by simp [getF] at h
  | .app _, _, _, _, _, _, h => by simp [getF] at h
  | .junk, _, _, _, _, _, h => by simp [getF] at h
  | .ptr _, _, _, _, _, _, h => by simp [getF] at h
  | .box _, _, _, _, _, _, h => by simp [getF] at h
  | .nils _, _, _, _, _, _, h => by simp [getF] at h
  | .nilp, _, _, _, _, _, h => by simp [getF] at h
  | .nili, _, _, _, _, _, h => by simp [getF] at h
  | .alt _ _ _, _, _, _, _, _, h => by simp [getF] at h

theorem setP_has : ∀ (p : Path) (t : Ty) (x : T t) (y : ODyn) (u : Ty) (z : T u), fldPath p = true → getP ⟨t, some x⟩ p = some y → ∃ r k, setP ⟨t, some x⟩ p ⟨u, some z⟩ = some ⟨r, some k⟩
  | [], t, x, y, u, z, _, _ => ⟨u, z, rfl⟩
  | .idx _ :: p, _, _, _, _, _, h, _ => by cases h
  | .fld i :: p, t, x, y, u, z, hp, hg => by
    simp only [getP] at hg
    obtain ⟨y1, hy1, hg⟩ := bind_some hg
    cases t with
    | agg t =>
      have hy1' : getF t (some x) i = some y1 := by cases t <;> exact hy1
      obtain ⟨v1, hv1⟩ := getF_has t x i y1 hy1'
      obtain ⟨t1, ov⟩ := y1
      cases ov with
      | none => cases hv1
      | some v2 =>
      obtain ⟨r1, k1, hr1⟩ := setP_has p t1 v2 y u z hp hg
      obtain ⟨r2, k2, hr2⟩ := setF_has t x i _ r1 k1 hy1'
      refine ⟨.agg r2, k2, ?_⟩
      simp only [setP, hy1, Option.bind_some, hr1]
      have : setS ⟨.agg t, some x⟩ (.fld i) ⟨r1, some k1⟩ = (setF t (some x) i ⟨r1, some k1⟩).map fun z => ⟨.agg z.ty, z.val⟩ := by cases t <;> rfl
      rw [this, hr2]; rfl
    | _ => simp [getS] at hy1

/-- what comes back into the places -/
def Back (w w' : World) (B' : Nat → Prop) (G : Nat → PG) (L : Look) : List (Nat × Path) → Obs → List PG → Upds → List (Nat × PG) → Prop
  | [], obs, gs, W, gas => obs = [] ∧ gs = [] ∧ W = [] ∧ gas = []
  | np :: os, obs, gs, W, gas => ∃ x obs' g gs' d W' ga gas' dn o b off pre post F1 F3 mid' F', obs = x :: obs' ∧ gs = g :: gs' ∧ W = (np.1, .set d) :: W' ∧ gas = (np.1, ga) :: gas' ∧
      L np.1 = some dn ∧ sk d.ty = sk dn.ty ∧ (G np.1).addr = some (b, off) ∧ ga = ⟨some (b, off), pre ++ mid' ++ post, F1 ++ F' ++ F3⟩ ∧ x.2.addr = some (b, off + o) ∧ g.addr = some (b, off + o) ∧ pre.length = o ∧ mid'.length = x.1.ty.size ∧
      (G np.1).cells.length = dn.ty.size ∧ o + x.1.ty.size ≤ dn.ty.size ∧
      (G np.1).F = F1 ++ x.2.F ++ F3 ∧ g.F = F' ∧ PlR w' B' ga d ∧ Back w w' B' G L os obs' gs' W' gas'

theorem back_ok {w' : World} {B' : Nat → Prop} (h : Inv X st a w B G) (hB : ∀ b, B b → Same w w' b) (hB' : ∀ b, B b → B' b) {ob : List Nat} (hold : ∀ b, b < w.heap.size → b ∉ ob → Same w w' b) : ∀ (os : List (Nat × Path)) (obs : Obs) (ts : List Ty) (ds : ObjT ts) (gs : List PG), GoodL w B G (look st) os obs → OsRel w' B' obs (objsL ts ds) gs → objFit (look st) os ts = true →
    (∀ x ∈ obs, ∀ b o, x.2.addr = some (b, o) → ∀ i, i < o ∨ o + x.1.ty.size ≤ i → w'.cell? ⟨b, i, none⟩ = w.cell? ⟨b, i, none⟩) →
    (∀ np ∈ os, ∀ x ∈ obs, GoodO w B G (look st) np x → ∀ F1 F3, (G np.1).F = F1 ++ x.2.F ++ F3 → ∀ b ∈ F1 ++ F3, b < w.heap.size ∧ b ∉ ob) → ∃ W gas, backOs (look st) os (objsL ts ds) = some W ∧ Back w w' B' G (look st) os obs gs W gas
  | [], obs, ts, ds, gs, hg, ho, hf, _, _ => by
    have hg : obs = [] := hg
    subst hg
    obtain ⟨hd, hgs⟩ := ho
    exact ⟨[], [], by rw [hd]; rfl, rfl, hgs, rfl, rfl⟩
  | np :: os, obs, ts, ds, gs, hg, ho, hf, hout, hno => by
    obtain ⟨x, obs', rfl, hgo, hg'⟩ := hg
    obtain ⟨d, g, ds', gs', hds, rfl, hpl, hga, hsz, ho'⟩ := ho
    cases ts with
    | nil => cases hds
    | cons t ts =>
      obtain ⟨dv, dr⟩ := ds
      simp only [objsL, List.cons.injEq] at hds
      obtain ⟨rfl, hds⟩ := hds
      simp only [objFit, Bool.and_eq_true] at hf
      obtain ⟨W, gas, hW, hBk⟩ := back_ok h hB hB' hold os obs' ts dr gs' hg' (by rw [hds]; exact ho') hf.2 (fun x hx => hout x (by simp [hx])) (fun np hnp x hx => hno np (by simp [hnp]) x (by simp [hx]))
      have hgo2 := hgo
      obtain ⟨dn, o, b, off, c, pre, post, F1, F3, hd, hget, hgad, hblk, hc, hl, hF, hxa, hm, hrep⟩ := hgo
      have hf1 := hf.1
      simp only [listAt, hd, Option.bind_some, hget, Bool.and_eq_true, decide_eq_true_eq, Bool.not_eq_true'] at hf1
      obtain ⟨⟨hsk, hfld⟩, _⟩ := hf1
      obtain ⟨r, k, hset⟩ := setP_has np.2 dn.ty dn.val _ t dv hfld hget
      have hskr : sk r = sk dn.ty := setP_sk np.2 ⟨dn.ty, some dn.val⟩ _ ⟨t, some dv⟩ ⟨r, some k⟩ hget hset hsk.symm
      obtain ⟨hgR, hgA⟩ := hpl
      have hga2 : g.addr = some (b, off + o) := by rw [hga, hxa]
      rw [hga2] at hgA
      obtain ⟨hgrows, c', hblk'⟩ := hgA
      have hml : g.cells.length = x.1.ty.size := by rw [Rel_length w' B' _ _ _ _ hgR, hsz]
      have hxl := Rel_length w B _ _ _ _ hm
      obtain ⟨hR, hA⟩ := h.pl np.1 dn hd
      have hdl := Rel_length w B _ _ _ _ hR
      have hle : o + x.1.ty.size ≤ dn.ty.size := by rw [← hdl, hc]; simp only [List.length_append]; omega
      rw [hgad] at hA
      refine ⟨(np.1, .set ⟨r, k⟩) :: W, (np.1, ⟨some (b, off), pre ++ g.cells ++ post, F1 ++ g.F ++ F3⟩) :: gas, ?_, ?_⟩
      · simp only [objsL, backOs, hd, Option.bind_some, hset, hW, Option.map_some]
      · refine ⟨x, obs', g, gs', ⟨r, k⟩, W, _, gas, dn, o, b, off, pre, post, F1, F3, g.cells, g.F, rfl, rfl, rfl, rfl, hd, hskr, hgad, rfl, hxa, hga2, hl, hml, hdl, hle, hF, rfl, ⟨?_, ?_, c', hblk'⟩, hBk⟩
        · exact hrep w' B' hB hB' (fun b' hb' => by
            obtain ⟨k1, k2⟩ := hno np (by simp) x (by simp) hgo2 F1 F3 hF b' hb'
            exact hold b' k1 k2) t dv g.cells g.F ⟨r, some k⟩ k hgR hset rfl
        · intro i v hi
          have hi : (pre ++ g.cells ++ post)[i]? = some v := hi
          show w'.cell? ⟨b, off + i, none⟩ = some v
          have hold1 : ∀ i v, (pre ++ x.2.cells ++ post)[i]? = some v → w.cell? ⟨b, off + i, none⟩ = some v := fun i v hi => hA.1 i v (by rw [hc]; exact hi)
          by_cases h1 : i < o
          · rw [hout x (by simp) b (off + o) hxa (off + i) (.inl (by omega))]
            refine hold1 i v ?_
            rw [List.append_assoc, List.getElem?_append_left (by omega)] at hi ⊢
            exact hi
          · by_cases h2 : i < o + x.1.ty.size
            · have := hgrows (i - o) v (by
                rw [List.append_assoc, List.getElem?_append_right (by omega), List.getElem?_append_left (by omega), hl] at hi
                exact hi)
              rw [show off + o + (i - o) = off + i by omega] at this
              exact this
            · rw [hout x (by simp) b (off + o) hxa (off + i) (.inr (by omega))]
              refine hold1 i v ?_
              rw [List.append_assoc, List.getElem?_append_right (by omega), List.getElem?_append_right (by omega), hl] at hi ⊢
              rw [hxl, ← hml]
              exact hi

end
end
end Go.Pv
