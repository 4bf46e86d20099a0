/- Parts of strings and slices; values of interfaces; conversions. -/
import Derived.Test.YtmjappidghjkjaaPvAppend
namespace Go.Pv
noncomputable section
universe u v

section
variable {X : Cx} {st : St} {a : Act} {w : World} {B : Nat → Prop} {G : Nat → PG} {E : Operand → Option EV}

def Bnd (r : Option (Option Int)) (v : Option Value) : Prop := match r, v with
  | none, none => True
  | some oi, some v => ∀ i, oi = some i → ∃ k, v = .int k i
  | _, _ => False

theorem optI_ok (h : Inv X st a w B G) (hE : EOk X st a w B G E) {oz : Option Operand} {oe : Option EV} (he : (match oz with | none => some none | some z => (E z).map some) = some oe) {r : Option (Option Int)} (hr : optI (look st) oe = some r) : Bnd r (oz.map a.eval) := by
  cases oz with
  | none =>
    obtain rfl := Option.some.inj he
    simp only [optI, Option.some.injEq] at hr
    subst hr
    trivial
  | some z =>
    obtain ⟨e, hez, rfl⟩ := Option.map_eq_some_iff.1 he
    simp only [optI] at hr
    obtain ⟨⟨k, oi⟩, hi, rfl⟩ := Option.map_eq_some_iff.1 hr
    intro i hoi
    have hoi : oi = some i := hoi
    subst hoi
    exact ⟨k, (int?_ok h (hE z e hez) hi).1⟩

theorem run_bound {P : Program} {v : Value} {k : IntKind} {i : Int} {y : Nat} {c : BoundsCode} (hv : v = .int k i) (h0 : 0 ≤ i) (h1 : i ≤ y) : (Instr.sliceBound v y c).run P w = .ok i.toNat w := by
  subst hv
  simp [Instr.sliceBound, asIntOf, h0, h1]

/-- the bounds of a slice expression without a third one -/
theorem run_bounds {P : Program} {lo hi : Option (Option Int)} {vl vh : Option Value} {isS : Bool} {len cap : Nat} (hlc : len ≤ cap) {l h : Int}
    (hlo : (match lo with | some l => l | none => some 0) = some l) (hhi : (match hi with | some h => h | none => some (len : Int)) = some h) (h0 : 0 ≤ l) (h1 : l ≤ h) (h2 : h ≤ len) (hl : Bnd lo vl) (hh : Bnd hi vh) :
    (Instr.sliceBounds isS len cap vl vh none).run P w = .ok (l.toNat, h.toNat, cap) w := by
  have hb : h ≤ (cap : Int) := by omega
  have h3 : (h.toNat : Int) = h := by omega
  have h4 : l ≤ (h.toNat : Int) := by omega
  cases hi with
  | none =>
    cases vh with
    | some v => exact hh.elim
    | none =>
      have hhi : (len : Int) = h := Option.some.inj hhi
      have h5 : h.toNat = len := by omega
      cases lo with
      | none =>
        cases vl with
        | some v => exact hl.elim
        | none =>
          have hlo : (0 : Int) = l := Option.some.inj hlo
          subst hlo
          simp [Instr.sliceBounds, h5]
      | some ol =>
        cases vl with
        | none => exact hl.elim
        | some v =>
          obtain ⟨k, hv⟩ := hl l hlo
          have := run_bound (P := P) (w := w) (y := len) (c := .sliceB) hv h0 (by omega)
          simp [Instr.sliceBounds, this, h5]
  | some oh =>
    cases vh with
    | none => exact hh.elim
    | some v =>
      obtain ⟨k, hv⟩ := hh h hhi
      have hr := fun c => run_bound (P := P) (w := w) (y := cap) (c := c) hv (by omega) hb
      cases lo with
      | none =>
        cases vl with
        | some v => exact hl.elim
        | none =>
          have hlo : (0 : Int) = l := Option.some.inj hlo
          subst hlo
          simp [Instr.sliceBounds, hr]
      | some ol =>
        cases vl with
        | none => exact hl.elim
        | some v2 =>
          obtain ⟨k2, hv2⟩ := hl l hlo
          have hr2 := run_bound (P := P) (w := w) (y := h.toNat) (c := .sliceB) hv2 h0 h4
          simp [Instr.sliceBounds, hr, hr2]

theorem subL_some {α : Type} {xs ys : List α} {l h : Int} (hs : subL xs l h = some ys) : 0 ≤ l ∧ l ≤ h ∧ h ≤ xs.length ∧ ys = (xs.take h.toNat).drop l.toNat := by
  unfold subL at hs
  split at hs
  · rename_i hc; exact ⟨hc.1, hc.2.1, hc.2.2, (Option.some.inj hs).symm⟩
  · cases hs

theorem RelL_sub {α : Type} {R : α → List Value → List Nat → Prop} {n : Nat} (hn : ∀ x cs F, R x cs F → cs.length = n) {xs : List α} {cs : List Value} (h : RelL R xs cs []) {i j : Nat} (hj : j ≤ xs.length) : RelL R ((xs.take j).drop i) ((cs.take (j * n)).drop (i * n)) [] := by
  have h1 : RelL R (xs.take j) (cs.take (j * n)) [] := by
    have hx := h
    rw [← List.take_append_drop j xs] at hx
    obtain ⟨c1, c2, F1, F2, hc, hF, k1, k2⟩ := RelL_app_inv hx
    obtain ⟨rfl, rfl⟩ := List.append_eq_nil_iff.1 hF.symm
    have hl := RelL_length hn _ _ _ k1
    rw [List.length_take, Nat.min_eq_left hj] at hl
    rw [hc, ← hl, List.take_left' rfl]
    exact k1
  rcases Nat.lt_or_ge (xs.take j).length i with hi | hi
  · rw [List.drop_eq_nil_of_le (Nat.le_of_lt hi)]
    have hl := RelL_length hn _ _ _ h1
    have hle : (cs.take (j * n)).length ≤ i * n := by rw [hl]; exact Nat.mul_le_mul_right _ (Nat.le_of_lt hi)
    rw [List.drop_eq_nil_of_le hle]
    exact ⟨rfl, rfl⟩
  · have hx := h1
    rw [← List.take_append_drop i (xs.take j)] at hx
    obtain ⟨c1, c2, F1, F2, hc, hF, k1, k2⟩ := RelL_app_inv hx
    obtain ⟨rfl, rfl⟩ := List.append_eq_nil_iff.1 hF.symm
    have hl := RelL_length hn _ _ _ k1
    rw [List.length_take, Nat.min_eq_left hi] at hl
    rw [hc, ← hl, List.drop_left' rfl]
    exact k2

theorem bytesOf_extract (s : ByteArray) (l h : Nat) (hh : h ≤ s.size) : bytesOf (s.extract l h) = ((bytesOf s).take h).drop l := by
  unfold bytesOf
  rw [ByteArray.data_extract, Array.toList_extract, List.extract_eq_take_drop, ← List.map_take, ← List.map_drop, List.drop_take]

/-- a part of a slice -/
theorem SlR_sub {e : Ty} {xs : List (T e)} {sa : Option Addr} {cap : Nat} {cl : Bool} {l h m : Nat} (hs : SlR w B e.size (Rel w B e) xs (.slice sa xs.length cap) cl) (h1 : l ≤ h) (h2 : h ≤ xs.length) (hm : h ≤ m) (hmc : m ≤ cap) {cl' : Bool} (hcl' : cl' = true → m = h) :
    SlR w B e.size (Rel w B e) ((xs.take h).drop l) (.slice (if m = l then sa else sa.map (·.add (l * e.size))) (h - l) (m - l)) cl' := by
  obtain ⟨a0, cap0, cells, hv, hle, hcap, _, hcl, hrel, hsa⟩ := hs
  simp only [Value.slice.injEq, true_and] at hv
  obtain ⟨rfl, rfl⟩ := hv
  have hlen : ((xs.take h).drop l).length = h - l := by rw [List.length_drop, List.length_take, Nat.min_eq_left h2]
  have hrel2 := RelL_sub (fun x cs F h => Rel_length w B e x cs F h) hrel (i := l) (j := h) h2
  refine ⟨_, m - l, _, by rw [hlen], by omega, by omega, fun hc => by rw [hlen, hcl' hc], ?_, hrel2, ?_⟩
  · exact RelL_length (fun x cs F h => Rel_length w B e x cs F h) _ _ _ hrel2
  · cases sa with
    | none =>
      have hsa : cap = 0 := hsa
      split
      · omega
      · rename_i heq
        split at heq
        · cases heq
        · cases heq
    | some ad =>
      have hrow := hsa
      by_cases hml : m = l
      · rw [if_pos hml]
        exact .inl (List.eq_nil_of_length_eq_zero (by rw [hlen]; omega))
      · rw [if_neg hml]
        show _ ∨ ((ad.add (l * e.size)).spot = none ∧ _)
        rcases hrow with hx | ⟨hsp, hB, hrow⟩
        · left; rw [hx]; simp
        right
        have hadd : (ad.add (l * e.size)).spot = none ∧ (ad.add (l * e.size)).block = ad.block ∧ (ad.add (l * e.size)).off = ad.off + l * e.size := by
          unfold Addr.add
          split
          · rename_i h0; exact ⟨hsp, rfl, by rw [h0]; rfl⟩
          · exact ⟨rfl, rfl, rfl⟩
        refine ⟨hadd.1, ?_⟩
        rw [hadd.2.1, hadd.2.2]
        refine ⟨hB, fun i v hi => ?_⟩
        rw [Nat.add_assoc]
        refine hrow _ v ?_
        rw [List.getElem?_drop] at hi
        exact take_getElem? hi

theorem op_slice (h : Inv X st a w B G) (hE : EOk X st a w B G E) {o : Oper} {t : TypeId} {z : Operand} {lo hi mx : Option Operand} (ho : o.op = .slice t z lo hi mx) {Γ : Nat → Option CSem} {dst : Nat} {r : ORes} (he : evalOp X.P Γ (look st) E dst (.slice t z lo hi mx) o.type = some r) {x : r.α} (hx : r.run = some x) :
    Does X st a w o (r.out x).ev (r.out x).upd := by
  simp only [evalOp] at he
  obtain ⟨ez, hez, he⟩ := bind_some he
  obtain ⟨ez', hfz, he⟩ := bind_some he
  obtain ⟨⟨y, U⟩, hy, he⟩ := bind_some he
  obtain ⟨elo, helo, he⟩ := bind_some he
  obtain ⟨ehi, hehi, he⟩ := bind_some he
  obtain ⟨emx, hemx, he⟩ := bind_some he
  obtain ⟨rlo, hrlo, he⟩ := bind_some he
  obtain ⟨rhi, hrhi, he⟩ := bind_some he
  obtain ⟨rmx, hrmx, he⟩ := bind_some he
  have hv := fix_ok (hE z ez hez) hfz
  have hblo := optI_ok h hE helo hrlo
  have hbhi := optI_ok h hE hehi hrhi
  have hbmx := optI_ok h hE hemx hrmx
  unfold sliceOp at he
  split at he
  · -- a string
    rename_i s hu
    split at he
    · rename_i ss heq
      have heq : y = ⟨.str, some ss⟩ := heq
      subst heq
      obtain rfl := Option.some.inj he
      obtain ⟨l, hl, hx⟩ := bind_some hx
      obtain ⟨hh, hhh, hx⟩ := bind_some hx
      obtain ⟨h0, h1, h2, hys⟩ := subL_some hx
      obtain ⟨B', G', hI, _, ⟨⟨b, hb, hbs, hbl, _⟩, hag⟩, _, _, _⟩ := take_ok h hv hy rfl
      have hb := cells_one hb hag
      have hlen : (bytesOf b).length = b.size := bytesOf_length b
      subst hbs
      rw [hlen] at h2 hhh
      cases hmx : mx with
      | some m => rw [hmx] at hbmx; exact hbmx.elim
      | none =>
      have hrun := run_bounds (P := X.P) (w := w) (isS := false) (len := b.size) (cap := b.size) (Nat.le_refl _) hl hhh h0 h1 h2 hblo hbhi
      refine Does.value (v := .string (b.extract l.toNat hh.toNat)) ?_ hI ?_
      · simp [execOp, ho, hb, hmx, Instr.sliceAt, Instr.slice, underlying, hu, hrun]
      · simp only [EVR]
        refine ⟨rfl, ⟨b.extract l.toNat hh.toNat, rfl, ?_, ?_, rfl⟩, rfl⟩
        · rw [bytesOf_extract b _ _ (by omega)]; exact hys.symm
        · rw [ByteArray.size_extract]; omega
    · cases he
  · rename_i et hu
    split at he
    · rename_i e s heq
      have heq : y = ⟨.slice e, s⟩ := heq
      subst heq
      split at he
      · rename_i hso
        obtain rfl := Option.some.inj he
        cases s with
        | none => cases hx
        | some s' =>
        obtain ⟨l, hl, hx⟩ := bind_some hx
        obtain ⟨hh, hhh, hx⟩ := bind_some hx
        obtain ⟨h0, h1, h2, hys⟩ := subL_some hx
        obtain ⟨B', G', hI, hp, ⟨⟨_, sv, hsv, sa, cap, cells, hcells, hle, hrest⟩, hag⟩, _, _, _⟩ := take_ok h hv hy rfl
        have hsv := cells_one hsv hag
        subst hcells
        cases hmx : mx with
        | some m => rw [hmx] at hbmx; exact hbmx.elim
        | none =>
        have hrun := run_bounds (P := X.P) (w := w) (isS := true) (len := List.length (α := T e) s') (cap := cap) hle hl hhh h0 h1 h2 hblo hbhi
        have hsub := SlR_sub (w := w) (B := B') (l := l.toNat) (h := hh.toNat) (m := cap) ⟨sa, cap, cells, rfl, hle, hrest⟩ (by omega) (by omega) (by omega) (Nat.le_refl _) (cl' := false) (by simp)
        refine Does.value (v := .slice (if cap = l.toNat then sa else sa.map (·.add (l.toNat * e.size))) (hh.toNat - l.toNat) (cap - l.toNat)) ?_ hI ?_
        · simp [execOp, ho, hsv, hmx, Instr.sliceAt, Instr.slice, underlying, hu, hrun, run_sizeOf hso]
        · show EVR _ _ _ _ _ (.val ⟨.slice e, x⟩) _
          simp only [EVR]
          refine ⟨hp, ⟨rfl, _, rfl, ?_⟩, rfl⟩
          have hys : x = (s'.take hh.toNat).drop l.toNat := hys
          rw [hys]; exact hsub
      · cases he
    · rename_i e s m heq
      have heq : y = ⟨.slice e, s⟩ := heq
      subst heq
      split at he
      · rename_i hso
        obtain rfl := Option.some.inj he
        cases s with
        | none => cases hx
        | some s' =>
        obtain ⟨l, hl, hx⟩ := bind_some hx
        obtain ⟨hh, hhh, hx⟩ := bind_some hx
        obtain ⟨mm, hmm, hx⟩ := bind_some hx
        split at hx
        rotate_left
        · cases hx
        rename_i hmh
        subst hmh
        obtain ⟨h0, h1, h2, hys⟩ := subL_some hx
        obtain ⟨B', G', hI, hp, ⟨⟨_, sv, hsv, sa, cap, cells, hcells, hle, hrest⟩, hag⟩, _, _, _⟩ := take_ok h hv hy rfl
        have hsv := cells_one hsv hag
        subst hcells
        cases hmx : mx with
        | none => rw [hmx] at hbmx; exact hbmx.elim
        | some zm =>
        rw [hmx] at hbmx
        obtain ⟨km, hvm⟩ := hbmx mm hmm
        cases rhi with
        | none => cases hhh
        | some ohi =>
        cases hhi2 : hi with
        | none => rw [hhi2] at hbhi; exact hbhi.elim
        | some zh =>
        rw [hhi2] at hbhi
        obtain ⟨kh, hvh⟩ := hbhi mm hhh
        have hrm := fun c => run_bound (P := X.P) (w := w) (y := cap) (c := c) hvm (by omega) (by omega)
        have hrh := fun c => run_bound (P := X.P) (w := w) (y := mm.toNat) (c := c) hvh (by omega) (by omega)
        have hrun : (Instr.sliceBounds true (List.length (α := T e) s') cap (lo.map a.eval) (some (a.eval zh)) (some (a.eval zm))).run X.P w = .ok (l.toNat, mm.toNat, mm.toNat) w := by
          cases hlo2 : lo with
          | none =>
            rw [hlo2] at hblo
            cases rlo with
            | some _ => exact hblo.elim
            | none =>
              have hl : (0 : Int) = l := Option.some.inj hl
              subst hl
              simp [Instr.sliceBounds, hrm, hrh]
          | some zl =>
            rw [hlo2] at hblo
            cases rlo with
            | none => exact hblo.elim
            | some ol =>
              obtain ⟨kl, hvl⟩ := hblo l hl
              have hrl := fun c => run_bound (P := X.P) (w := w) (y := mm.toNat) (c := c) hvl h0 (by omega)
              simp [Instr.sliceBounds, hrm, hrh, hrl]
        have hsub := SlR_sub (w := w) (B := B') (l := l.toNat) (h := mm.toNat) (m := mm.toNat) ⟨sa, cap, cells, rfl, hle, hrest⟩ (by omega) (by omega) (Nat.le_refl _) (by omega) (cl' := true) (fun _ => rfl)
        refine Does.value (v := .slice (if mm.toNat = l.toNat then sa else sa.map (·.add (l.toNat * e.size))) (mm.toNat - l.toNat) (mm.toNat - l.toNat)) ?_ hI ?_
        · simp [execOp, ho, hsv, hmx, hhi2, Instr.sliceAt, Instr.slice, underlying, hu, hrun, run_sizeOf hso]
        · show EVR _ _ _ _ _ (.clip e x) _
          simp only [EVR]
          have hys : x = (s'.take mm.toNat).drop l.toNat := hys
          rw [hys]
          exact ⟨hp, hsub⟩
      · cases he
    · cases he
  · cases he

/-! ### values of interfaces -/
theorem run_iface {P : Program} {t : TypeId} (hi : isIface (P.underlying t) = false) (v : Value) : (Instr.makeInterface t v).run P w = .ok (.iface t v) w := by
  cases hu : P.underlying t with
  | none => rw [hu] at hi; cases hi
  | some d => rw [hu] at hi; cases d <;> first | (cases hi; done) | simp [Instr.makeInterface, underlying, hu]

theorem op_makeInterface (h : Inv X st a w B G) (hE : EOk X st a w B G E) {o : Oper} {t : TypeId} {z : Operand} (ho : o.op = .makeInterface t z) {Γ : Nat → Option CSem} {dst : Nat} {r : ORes} (he : evalOp X.P Γ (look st) E dst (.makeInterface t z) o.type = some r) {x : r.α} (hx : r.run = some x) :
    Does X st a w o (r.out x).ev (r.out x).upd := by
  simp only [evalOp] at he
  obtain ⟨ez, hez, he⟩ := bind_some he
  split at he
  · cases he
  rename_i hni
  have hni : isIface (X.P.underlying t) = false := by simpa using hni
  have hv := hE z ez hez
  have hrun : (execOp a.eval o).run X.P w = .ok (.value (.iface t (a.eval z))) w := by simp [execOp, ho, run_iface hni]
  unfold ifaceOp at he
  split at he
  · rename_i n
    obtain ⟨d, hd, he⟩ := bind_some he
    split at he
    · rename_i hk
      simp only [Bool.and_eq_true] at hk
      obtain rfl := Option.some.inj he
      have hd : lk n st.pl = some d := hd
      simp only [EVR] at hv
      obtain ⟨d1, o1, u1, b, off, hd1, ho1, hg, hvv⟩ := hv
      have hd1 : lk n st.pl = some d1 := hd1
      rw [hd] at hd1
      obtain rfl := Option.some.inj hd1
      simp only [offP, Option.some.injEq, Prod.mk.injEq] at ho1
      obtain ⟨rfl, rfl⟩ := ho1
      obtain ⟨hR, hA⟩ := h.pl n d hd
      rw [hg] at hA
      obtain ⟨hrows, c, hblk⟩ := hA
      obtain ⟨hnd, hsep⟩ := h.sep n d hd
      have hbl : (G n).blocks = b :: (G n).F := by unfold PG.blocks; rw [hg]
      have hpl : ∀ m d', lk m (applyU [(n, .del)] st).pl = some d' → m ≠ n ∧ lk m st.pl = some d' := by
        intro m d' hm
        have hm : lk m (rmv n st.pl) = some d' := hm
        rw [lk_rmv] at hm
        split at hm
        · cases hm
        · rename_i e; exact ⟨e, hm⟩
      have hI : Inv X (applyU [(n, .del)] st) a w (fun x => B x ∨ x ∈ (G n).blocks) G := by
        refine h.move [(n, .del)] w (fun x => B x ∨ x ∈ (G n).blocks) G (Nat.le_refl _) ⟨rfl, rfl, rfl⟩ (fun b hb => ⟨rfl, .inl hb⟩) ?_ (fun b hb hB => hB.imp id (fun hx => (hsep b hx).2 hb)) (fun _ _ _ => rfl) ?_ ?_ (fun _ _ => rfl) ?_ ?_ (fun _ _ _ _ _ _ _ => rfl)
          (by intro u hu _; rw [List.mem_singleton] at hu; rw [hu]; exact Nat.eq_of_beq_eq_true hk.1)
        · intro x hx
          rcases hx with hx | hx
          · exact h.bsz x hx
          · rw [hbl] at hx
            rcases List.mem_cons.1 hx with rfl | hx
            · exact hblk.lt
            · exact Rel_lt _ _ _ _ hR x hx
        · intro m d' hm
          obtain ⟨hne, hm⟩ := hpl m d' hm
          obtain ⟨h1, h2⟩ := h.pl m d' hm
          obtain ⟨h3, h4⟩ := h.sep m d' hm
          refine ⟨⟨Rel_same (fun _ _ => rfl) (fun _ h => .inl h) _ _ _ _ h1 (fun _ _ => rfl), h2⟩, h3, fun b hb => ⟨fun hB => ?_, (h4 b hb).2⟩⟩
          rcases hB with hB | hB
          · exact (h4 b hb).1 hB
          · exact h.apart m n d' d hm hd hne b hb hB
        · intro m m' d1 d2 h1 h2 hne
          exact h.apart m m' d1 d2 (hpl _ _ h1).2 (hpl _ _ h2).2 hne
        · intro u hu
          rw [List.mem_singleton] at hu
          subst hu
          exact .inl rfl
        · intro k d' hk
          exact h.obj k d' (hpl _ _ hk).2
      refine Does.value hrun hI ?_
      show EVR _ _ _ _ _ (.val ⟨.alt t (.ptr (frz d.ty)) .nili, .inl (some (frzV d.ty d.val))⟩) _
      simp only [EVR]
      refine ⟨by simp [Ty.pure, hk.2], ⟨rfl, _, rfl, ?_, by rw [hvv]; rfl⟩, rfl⟩
      rw [hvv]
      refine ⟨rfl, b, off, (G n).cells, rfl, .inr (by rw [hbl]; simp), hrows, ?_⟩
      exact Rel_same (fun _ _ => rfl) (fun x hx => hx.imp id (fun hx => PG.mem_blocks hx)) _ _ _ _ (Rel_frz d.ty d.val _ _ hk.2 hR) (by simp)
    · cases he
  · obtain ⟨ez', hfz, he⟩ := bind_some he
    obtain ⟨⟨y, U⟩, hy, he⟩ := bind_some he
    split at he
    · obtain rfl := Option.some.inj he
      obtain ⟨B', G', hI, hp, hvr, _, _, _⟩ := take_ok h (fix_ok hv hfz) hy hx
      refine Does.value hrun hI ?_
      show EVR _ _ _ _ _ (.val ⟨.alt t y.ty .nili, .inl x⟩) _
      simp only [EVR]
      exact ⟨by simp [Ty.pure, hp], ⟨rfl, _, rfl, hvr.1, hvr.2⟩, rfl⟩
    · cases he

end
end
end Go.Pv
