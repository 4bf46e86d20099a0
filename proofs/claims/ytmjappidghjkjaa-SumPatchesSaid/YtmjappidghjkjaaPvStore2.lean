/- Stores: the operation. -/
import Derived.Test.YtmjappidghjkjaaPvStore
namespace Go.Pv
noncomputable section
universe u v

theorem getF_has : ∀ (t : Ty) (x : T t) (i : Nat) (y : ODyn), getF t (some x) i = some y → ∃ v, y.val = some v := by
  intro t
  induction t with
  | pair a b iha ihb =>
    intro x i y h
    cases i with
    | zero =>
      simp only [getF, Option.some.injEq] at h
      subst h
      exact ⟨_, rfl⟩
    | succ i => exact ihb x.2 i y (by simpa only [getF, Option.map_some] using h)
  | _ => intro x i y h; simp [getF] at h

theorem setP_none : ∀ (p : Path) (dd : ODyn) (r : ODyn) (u : Ty), setP dd p ⟨u, none⟩ = some r → r.val = none := by
  intro p
  induction p with
  | nil => intro dd r u h; simp only [setP, Option.some.injEq] at h; subst h; rfl
  | cons s p ih =>
    intro dd r u h
    simp only [setP] at h
    obtain ⟨d1, _, h⟩ := bind_some h
    obtain ⟨r1, hr1, h⟩ := bind_some h
    obtain ⟨t1, v1⟩ := r1
    have := ih d1 _ u hr1
    have this : v1 = none := this
    subst this
    obtain ⟨td, xd⟩ := dd
    exact setS_none td xd s t1 r h

theorem getP_has : ∀ (p : Path) (t : Ty) (x : T t) (y r old : ODyn) (k : T r.ty), setP ⟨t, some x⟩ p y = some r → r.val = some k → getP ⟨t, some x⟩ p = some old → ∃ v, old.val = some v
  | [], t, x, y, r, old, k, _, _, hg => by
    simp only [getP, Option.some.injEq] at hg
    subst hg
    exact ⟨x, rfl⟩
  | s :: p, t, x, y, r, old, k, hs, hk, hg => by
    simp only [getP] at hg
    simp only [setP] at hs
    obtain ⟨y1, hy1, hg⟩ := bind_some hg
    rw [hy1] at hs
    simp only [Option.bind_some] at hs
    obtain ⟨r1, hr1, hs3⟩ := bind_some hs
    obtain ⟨t1, v1⟩ := y1
    cases v1 with
    | some v1 =>
      obtain ⟨tr, vr⟩ := r1
      cases vr with
      | none => rw [setS_none t (some x) s tr r hs3] at hk; cases hk
      | some vr => exact getP_has p t1 v1 y ⟨tr, some vr⟩ old vr hr1 rfl hg
    | none =>
      exfalso
      cases t with
      | agg t =>
        cases s with
        | fld i =>
          have hy1 : getF t (some x) i = some ⟨t1, none⟩ := by cases t <;> exact hy1
          obtain ⟨v, hv⟩ := getF_has t x i _ hy1
          cases hv
        | idx i =>
          cases t with
          | arr n e =>
            simp only [getS, Option.bind_some, Option.some.injEq, ODyn.mk.injEq] at hy1
            obtain ⟨rfl, hy1⟩ := hy1
            have hy1 : rdI (α := T e) x i = none := eq_of_heq hy1
            simp only [setS] at hs3
            split at hs3
            · simp only [Option.some.injEq] at hs3
              subst hs3
              simp only [Option.bind_some] at hk
              obtain ⟨w, _, hk⟩ := bind_some hk
              obtain ⟨h0, hi, _⟩ := stI_some hk
              simp [rdI, h0, hi] at hy1
            · cases hs3
          | _ => simp [getS] at hy1
      | _ => cases s <;> simp [getS] at hy1

section
variable {X : Cx} {st : St} {a : Act} {w : World} {B : Nat → Prop} {G : Nat → PG} {E : Operand → Option EV}

/-- cells of an owned slice are written -/
theorem Inv.storeEl (h : Inv X st a w B G) {n : Nat} {d : Dyn} (hd : lk n st.pl = some d) {p : Path} {e : Ty} {xs : List (T e)} (hget : getP ⟨d.ty, some d.val⟩ p = some ⟨.own e, some xs⟩) (hp : e.pure = true)
    {o len cap b : Nat} (ho : offP d.ty p = some (o, .own e)) (hsl : (G n).cells[o]? = some (.slice (some ⟨b, 0, none⟩) len cap)) {i : Int} {q : Path} {qo : Nat} {old : ODyn} (hq : offP e q = some (qo, old.ty)) {xv : T e} (hx : rdI xs i = some xv)
    (hold : getP ⟨e, some xv⟩ q = some old) {ov : T old.ty} (hov : old.val = some ov) {u : Ty} {z : T u} {mid' : List Value} (hz : Rel w B u z mid' []) (hsk : sk u = sk old.ty) {zr : T e} (hset : setP ⟨e, some xv⟩ q ⟨u, some z⟩ = some ⟨e, some zr⟩)
    {r : ODyn} {k : T r.ty} (hset2 : setP ⟨d.ty, some d.val⟩ p ⟨.own e, some (xs.set i.toNat zr)⟩ = some r) (hk : r.val = some k) :
    (∃ A M Z c, Blk w b c ∧ c.toList = A ++ M ++ Z ∧ A.length = i.toNat * e.size + qo ∧ M.length = mid'.length) ∧ Inv X (applyU [(n, .keep ⟨r.ty, k⟩)] st) a (w.setCells b (i.toNat * e.size + qo) mid') B G := by
  obtain ⟨hR, hA⟩ := h.pl n d hd
  obtain ⟨o', pre, mid, post, F1, F2, F3, ho', hc, hl, hF, hm, hrep⟩ := getP_rel p d.ty d.val _ xs _ _ hget rfl hR
  rw [ho] at ho'
  simp only [Option.some.injEq, Prod.mk.injEq, and_true] at ho'
  subst ho'
  obtain ⟨hnd, hsep⟩ := h.sep n d hd
  obtain ⟨sv, hmid, hown⟩ := hm
  subst hmid
  rw [hc, List.append_assoc, List.getElem?_append_right (by omega), hl, Nat.sub_self] at hsl
  simp only [List.cons_append, List.nil_append, List.getElem?_cons_zero, Option.some.injEq] at hsl
  subst hsl
  obtain ⟨h0, hi⟩ := rdI_some hx
  rcases hown with ⟨_, hbad, _⟩ | ⟨b', cap', c, F', hsv, h1, h2, hblk, h4, h5, h6⟩
  · cases hbad
  simp only [Value.slice.injEq, Option.some.injEq, Addr.mk.injEq, and_true] at hsv
  obtain ⟨rfl, rfl, rfl⟩ := hsv
  have hF' : F' = [] := RelL_F (fun x cs F hx => Rel_pure w B e x cs F hp hx) _ _ _ h5
  subst hF'
  obtain ⟨c1, c2, c3, G1, G2, G3, e1, e2, e3, e4, e5⟩ := RelL_split (fun x cs F h => Rel_length w B e x cs F h) xs _ _ _ xv h5 hi
  have hGs := e2.symm
  simp only [List.append_eq_nil_iff] at hGs
  obtain ⟨⟨rfl, rfl⟩, rfl⟩ := hGs
  obtain ⟨o2, pre2, mid2, post2, H1, H2, H3, k1, k2, k3, k4, k5, k6⟩ := getP_rel q e xv old ov c2 [] hold hov e4
  rw [hq] at k1
  simp only [Option.some.injEq, Prod.mk.injEq, and_true] at k1
  subst k1
  have hHs := k4.symm
  simp only [List.append_eq_nil_iff] at hHs
  obtain ⟨⟨rfl, rfl⟩, rfl⟩ := hHs
  have hml : mid2.length = mid'.length := by rw [Rel_length w B _ _ _ _ k5, Rel_length w B _ _ _ _ hz, size_of_sk hsk]
  have hbn : b ∈ (G n).blocks := PG.mem_blocks (by rw [hF, h6]; simp)
  have hbB : ¬ B b := (hsep b hbn).1
  have hct : c.toList = (c1 ++ pre2) ++ mid2 ++ (post2 ++ c3 ++ c.toList.drop (xs.length * e.size)) := by
    conv => lhs; rw [← List.take_append_drop (xs.length * e.size) c.toList, e1, k2]
    simp
  have hAl : (c1 ++ pre2).length = i.toNat * e.size + qo := by simp [e3, k3]
  refine ⟨⟨_, _, _, c, hblk, hct, hAl, hml⟩, ?_⟩
  obtain ⟨ty, fr, hheap, hfr⟩ := hblk
  obtain ⟨c', hheap', hcl'⟩ := setCells_ok b mid' (i.toNat * e.size + qo) w c _ _ _ hheap hct hAl hml
  obtain ⟨hsz', htape, hos, hout⟩ := setCells_rest b mid' (i.toNat * e.size + qo) w
  have hcsz : c'.size = c.size := by
    have k1 := congrArg List.length hcl'
    have k2 := congrArg List.length hct
    simp only [List.length_append, Array.length_toList] at k1 k2
    omega
  have hblk' : Blk (w.setCells b (i.toNat * e.size + qo) mid') b c' := ⟨ty, fr, hheap', fun i hi => hfr i (by rw [← hcsz]; exact hi)⟩
  have hother : ∀ b', b' ≠ b → Same w (w.setCells b (i.toNat * e.size + qo) mid') b' := fun b' hb' => setCells_other b mid' _ w b' hb'
  have hBsame : ∀ b', B b' → Same w (w.setCells b (i.toNat * e.size + qo) mid') b' := fun b' hb' => hother b' (fun e => hbB (e ▸ hb'))
  have hFn := PG.F_nodup hnd
  rw [hF, h6] at hFn
  have hn1 := List.nodup_append.1 hFn
  have hn2 := List.nodup_append.1 hn1.1
  have hF13 : ∀ x ∈ F1 ++ F3, x ≠ b := by
    intro x hx e
    subst e
    rcases List.mem_append.1 hx with hx | hx
    · exact hn2.2.2 x hx x (by simp) rfl
    · exact hn1.2.2 x (by simp) x hx rfl
  have hel : Rel (w.setCells b (i.toNat * e.size + qo) mid') B e zr (pre2 ++ mid' ++ post2) [] := by
    have := k6 _ B hBsame (fun _ h => h) (by simp) u z mid' [] ⟨e, some zr⟩ zr (Rel_same hBsame (fun _ h => h) _ _ _ _ hz (by simp)) hset rfl
    simpa using this
  have hrow := e5 (Rel (w.setCells b (i.toNat * e.size + qo) mid') B e) zr (pre2 ++ mid' ++ post2) [] (fun x cs F hx hF => Rel_same hBsame (fun _ h => h) _ _ _ _ hx (fun b hb => by have := hF b hb; simp at this)) hel
  have hown' : Rel (w.setCells b (i.toNat * e.size + qo) mid') B (.own e) (xs.set i.toNat zr) [.slice (some ⟨b, 0, none⟩) xs.length cap] F2 := by
    refine ⟨_, rfl, .inr ⟨b, cap, c', [], by simp, by simpa using h1, h2, hblk', by rw [hcsz, h4], ?_, h6⟩⟩
    have hll : (c1 ++ (pre2 ++ mid' ++ post2) ++ c3).length = xs.length * e.size := by
      have hcl : (c.toList.take (xs.length * e.size)).length = xs.length * e.size := by
        have hcc : c.toList.length = cap * e.size := by rw [← h4]; simp
        rw [List.length_take, hcc]; exact Nat.min_eq_left (Nat.mul_le_mul_right _ h1)
      rw [e1, k2] at hcl
      simp only [List.length_append] at hcl ⊢
      omega
    rw [hcl', List.length_set, show c1 ++ pre2 ++ mid' ++ (post2 ++ c3 ++ c.toList.drop (xs.length * e.size)) = (c1 ++ (pre2 ++ mid' ++ post2) ++ c3) ++ c.toList.drop (xs.length * e.size) by simp, ← hll, List.take_left']
    · simpa using hrow
    · rfl
  have hR' := hrep (w.setCells b (i.toNat * e.size + qo) mid') B hBsame (fun _ h => h) (fun b' hb' => hother b' (hF13 b' hb')) (.own e) (xs.set i.toNat zr) _ F2 r k hown' hset2 hk
  rw [← hc, ← hF] at hR'
  have hskr : sk r.ty = sk d.ty := setP_sk p ⟨d.ty, some d.val⟩ _ _ r hget hset2 rfl
  have hlk : ∀ m d', lk m (applyU [(n, .keep ⟨r.ty, k⟩)] st).pl = some d' → (m = n ∧ d' = ⟨r.ty, k⟩) ∨ (m ≠ n ∧ lk m st.pl = some d') := by
    intro m d' hm
    have hm : lk m (Pv.put n (⟨r.ty, k⟩ : Dyn) st.pl) = some d' := hm
    rw [lk_put] at hm
    split at hm
    · rename_i e; exact .inl ⟨e, (Option.some.inj hm).symm⟩
    · rename_i e; exact .inr ⟨e, hm⟩
  have haddr : ∀ ad, (G n).addr = some ad → ad.1 ≠ b := by
    intro ad had e
    unfold PG.blocks at hnd
    rw [had] at hnd
    exact (List.nodup_cons.1 hnd).1 (by rw [e, hF, h6]; simp)
  refine h.move [(n, .keep ⟨r.ty, k⟩)] _ B G (by omega) ⟨htape, hos, hout⟩ (fun b' hb' => ⟨hBsame b' hb', hb'⟩) (fun b' hb' => by rw [hsz']; exact h.bsz b' hb') (fun _ _ h => .inl h)
    (fun b' hb' hno => hother b' (fun e => hno (e ▸ (hsep b hbn).2 (e ▸ hb')))) ?_ ?_ (fun _ _ => rfl) ?_ ?_ ?_ (by simp [Upd.isDel])
  · intro m d' hm
    rcases hlk m d' hm with ⟨rfl, rfl⟩ | ⟨hne, hm⟩
    · refine ⟨⟨hR', ?_⟩, hnd, hsep⟩
      split
      · trivial
      · rename_i ad hgm
        rw [hgm] at hA
        obtain ⟨k1, c2, k2⟩ := hA
        have hne2 := hother ad.1 (haddr ad hgm)
        exact ⟨k1.same hne2, c2, k2.same hne2⟩
    · obtain ⟨h1, h2⟩ := h.pl m d' hm
      have hmb : ∀ b' ∈ (G m).blocks, b' ≠ b := fun b' hb' e => h.apart m n d' d hm hd hne b' hb' (e ▸ hbn)
      refine ⟨⟨Rel_same hBsame (fun _ h => h) _ _ _ _ h1 (fun b' hb' => hother b' (hmb b' (PG.mem_blocks hb'))), ?_⟩, h.sep m d' hm⟩
      split
      · trivial
      · rename_i ad hgm
        rw [hgm] at h2
        obtain ⟨k1, c2, k2⟩ := h2
        have hne2 := hother ad.1 (hmb ad.1 (by unfold PG.blocks; rw [hgm]; simp))
        exact ⟨k1.same hne2, c2, k2.same hne2⟩
  · intro m m' d1 d2 h1 h2 hne
    have e1 : ∃ d, lk m st.pl = some d := by
      rcases hlk m d1 h1 with ⟨rfl, _⟩ | ⟨_, h⟩
      · exact ⟨d, hd⟩
      · exact ⟨_, h⟩
    have e2 : ∃ d, lk m' st.pl = some d := by
      rcases hlk m' d2 h2 with ⟨rfl, _⟩ | ⟨_, h⟩
      · exact ⟨d, hd⟩
      · exact ⟨_, h⟩
    obtain ⟨x1, e1⟩ := e1
    obtain ⟨x2, e2⟩ := e2
    exact h.apart m m' x1 x2 e1 e2 hne
  · intro u' hu'
    rw [List.mem_singleton] at hu'
    subst hu'
    exact .inr ⟨rfl, ⟨d, ⟨r.ty, k⟩, hd, by show lk n (Pv.put n _ st.pl) = _; rw [lk_put]; simp, hskr⟩, .inr (.inl rfl)⟩
  · intro k' d' hk'
    rcases hlk _ d' hk' with ⟨e, rfl⟩ | ⟨hne, hm⟩
    · subst e
      obtain ⟨b1, o1, s, h1, h2, h3⟩ := h.obj k' d hd
      exact ⟨b1, o1, s, h1, h2, by show r.ty.size = s; rw [size_of_sk hskr, h3]⟩
    · exact h.obj k' d' hm
  · intro k' b2 o2 s2 ho2 i' _
    refine (hother b2 ?_).cell i'
    intro e
    subst e
    obtain ⟨d2, hd2⟩ := h.objL k' b2 o2 s2 ho2
    obtain ⟨b3, o3, s3, h1, h2, _⟩ := h.obj k' d2 hd2
    rw [ho2] at h1
    simp only [Option.some.injEq, Prod.mk.injEq] at h1
    obtain ⟨rfl, rfl, rfl⟩ := h1
    by_cases hkn : objName k' = n
    · rw [hkn] at h2
      exact haddr _ h2 rfl
    · exact h.apart _ _ d2 d hd2 hd hkn b2 (by unfold PG.blocks; rw [h2]; simp) hbn

theorem any_names {U : Upds} {n : Nat} (h : ((updNames U).any fun m => Nat.beq n m) = false) : n ∉ updNames U := by
  intro hm
  have := List.any_eq_false.1 h n hm
  simp at this

theorem op_store (h : Inv X st a w B G) (hE : EOk X st a w B G E) {o : Oper} {t : TypeId} {za zx : Operand} (ho : o.op = .store t za zx) {Γ : Nat → Option CSem} {dst : Nat} {r : ORes} (he : evalOp X.P Γ (look st) E dst (.store t za zx) o.type = some r) {x : r.α} (hx : r.run = some x) :
    Does X st a w o (r.out x).ev (r.out x).upd := by
  simp only [evalOp] at he
  obtain ⟨ea, hea, he⟩ := bind_some he
  obtain ⟨ex, hex, he⟩ := bind_some he
  obtain ⟨ex', hfx, he⟩ := bind_some he
  have hva := hE za ea hea
  have hvx := fix_ok (hE zx ex hex) hfx
  split at he
  · rename_i n p _ _
    obtain ⟨⟨y, U⟩, hy, he⟩ := bind_some he
    split at he
    · rename_i hk
      simp only [Bool.and_eq_true, Bool.not_eq_true'] at hk
      obtain ⟨d, hd, he⟩ := bind_some he
      obtain ⟨old, hold, he⟩ := bind_some he
      split at he
      · rename_i hsk
        obtain ⟨rr, hrr, rfl⟩ := Option.map_eq_some_iff.1 he
        have hx : rr.val = some x := hx
        have hd : lk n st.pl = some d := hd
        obtain ⟨ty, yv⟩ := y
        cases yv with
        | none =>
          rw [setP_none p _ rr ty hrr] at hx
          cases hx
        | some yv =>
          obtain ⟨ov, hov⟩ := getP_has p d.ty d.val ⟨ty, some yv⟩ rr old x hrr hx hold
          obtain ⟨B', G', F, hI, hv, hB, hF, hFs, hFap, hkeep, hEV⟩ := mv_ok h hvx hy rfl
          have hnn : n ∉ updNames U := any_names hk.2
          obtain ⟨hd', hG'⟩ := hkeep n d hnn hd
          simp only [EVR] at hva
          obtain ⟨d1, o1, u1, b, off, hd1, ho1, hg, hvv⟩ := hva
          have hd1 : lk n st.pl = some d1 := hd1
          rw [hd] at hd1
          obtain rfl := Option.some.inj hd1
          obtain ⟨oo, hoo⟩ := getP_off p _ _ hold
          rw [ho1] at hoo
          simp only [Option.some.injEq, Prod.mk.injEq] at hoo
          obtain ⟨rfl, rfl⟩ := hoo
          have h0 : ty.size ≠ 0 := fun e => by have := hk.1.2; simp only at this; rw [e] at this; simp at this
          obtain ⟨⟨A, M, Z, c, hb1, hb2, hb3, hb4⟩, G2, hI2, _, _⟩ := hI.store hd' (by rw [hG']; exact hg) hold hov hv.1 hF hFs hFap hsk.symm hrr hx ho1 h0
          rw [← applyU_append] at hI2
          refine Does.skip ?_ hI2
          have hrun := run_storeAt (P := X.P) hb1 hb2 hb3 hb4 (Rel_plain w B' _ _ _ _ hv.1) hk.1.1 (Rel_length w B' _ _ _ _ hv.1)
          simp [execOp, ho, hvv, Instr.storeAt, Instr.sureAddr, hrun]
      · cases he
    · cases he
  · rename_i n p e0 i q _ _
    obtain ⟨⟨y, U⟩, hy, he⟩ := bind_some he
    split at he
    · rename_i hk
      simp only [Bool.and_eq_true, Bool.not_eq_true'] at hk
      obtain ⟨d, hd, he⟩ := bind_some he
      obtain ⟨yy, hyy, he⟩ := bind_some he
      split at he
      · rename_i e xs
        split at he
        · rename_i he0
          obtain ⟨rfl, hep⟩ := he0
          obtain ⟨old, hold, he⟩ := bind_some he
          split at he
          · rename_i hsk
            obtain ⟨z, hz, he⟩ := bind_some he
            split at he
            · rename_i hze
              obtain ⟨rr, hrr, rfl⟩ := Option.map_eq_some_iff.1 he
              have hx : rr.val = some x := hx
              have hd : lk n st.pl = some d := hd
              obtain ⟨zt, zv⟩ := z
              have hze : zt = e0 := hze
              subst hze
              have hw : ∃ xv zr, rdI xs i = some xv ∧ zv = some zr ∧ stI xs i zr = some (xs.set i.toNat zr) := by
                cases zv with
                | none =>
                  exfalso
                  rw [setP_none p _ rr _ hrr] at hx
                  cases hx
                | some zr =>
                  have hrr' : setP ⟨d.ty, some d.val⟩ p ⟨.own zt, stI xs i zr⟩ = some rr := hrr
                  cases hst : stI xs i zr with
                  | none =>
                    rw [hst] at hrr'
                    rw [setP_none p _ rr _ hrr'] at hx
                    cases hx
                  | some ys =>
                    obtain ⟨h0, hi, rfl⟩ := stI_some hst
                    exact ⟨xs[i.toNat], zr, by simp [rdI, h0, hi], rfl, hst⟩
              obtain ⟨xv, zr, hxv, rfl, hst⟩ := hw
              have hrr' : setP ⟨d.ty, some d.val⟩ p ⟨.own zt, some (xs.set i.toNat zr)⟩ = some rr := by
                have hrr' : setP ⟨d.ty, some d.val⟩ p ⟨.own zt, stI xs i zr⟩ = some rr := hrr
                rw [hst] at hrr'; exact hrr'
              rw [hxv] at hold hz
              obtain ⟨ty, yv⟩ := y
              cases yv with
              | none => have := setP_none q _ _ _ hz; cases this
              | some yv =>
              obtain ⟨ov, hov⟩ := getP_has q zt xv ⟨ty, some yv⟩ ⟨zt, some zr⟩ old zr hz rfl hold
              obtain ⟨B', G', hI, hpu, hv, hB, hkeep, hEV⟩ := take_ok h hvx hy rfl
              have hnn : n ∉ updNames U := any_names hk.2
              obtain ⟨hd', hG'⟩ := hkeep n d hnn hd
              simp only [EVR] at hva
              obtain ⟨d1, o1, u1, b, len, cap, qo, qu, hd1, ho1, hg, hq, hvv⟩ := hva
              have hd1 : lk n st.pl = some d1 := hd1
              rw [hd] at hd1
              obtain rfl := Option.some.inj hd1
              obtain ⟨oo, hoo⟩ := getP_off p _ _ hyy
              rw [ho1] at hoo
              simp only [Option.some.injEq, Prod.mk.injEq] at hoo
              obtain ⟨rfl, rfl⟩ := hoo
              obtain ⟨o2, ho2⟩ := getP_off q _ _ hold
              rw [hq] at ho2
              simp only [Option.some.injEq, Prod.mk.injEq] at ho2
              obtain ⟨rfl, rfl⟩ := ho2
              obtain ⟨⟨A, M, Z, c, hb1, hb2, hb3, hb4⟩, hI2⟩ := hI.storeEl hd' hyy hep ho1 (by rw [hG']; exact hg) hq hxv hold hov hv.1 hsk.symm hz hrr' hx
              rw [← applyU_append] at hI2
              refine Does.skip ?_ hI2
              have hrun := run_storeAt (P := X.P) hb1 hb2 hb3 hb4 (Rel_plain w B' _ _ _ _ hv.1) hk.1.1 (Rel_length w B' _ _ _ _ hv.1)
              simp [execOp, ho, hvv, Instr.storeAt, Instr.sureAddr, hrun]
            · cases he
          · cases he
        · cases he
      · cases he
    · cases he
  · cases he

end
end
end Go.Pv
