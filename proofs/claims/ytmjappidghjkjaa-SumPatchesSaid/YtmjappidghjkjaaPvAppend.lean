/- append, and values of interfaces. -/
import Derived.Test.YtmjappidghjkjaaPvStore2
namespace Go.Pv
noncomputable section
universe u v

theorem RelL_app_inv {α : Type} {R : α → List Value → List Nat → Prop} : ∀ {xs ys : List α} {cs : List Value} {F : List Nat}, RelL R (xs ++ ys) cs F → ∃ c1 c2 F1 F2, cs = c1 ++ c2 ∧ F = F1 ++ F2 ∧ RelL R xs c1 F1 ∧ RelL R ys c2 F2
  | [], _, cs, F, h => ⟨[], cs, [], F, rfl, rfl, ⟨rfl, rfl⟩, h⟩
  | x :: xs, ys, cs, F, ⟨c1, c2, F1, F2, hc, hF, h1, h2⟩ => by
    obtain ⟨d1, d2, G1, G2, e1, e2, e3, e4⟩ := RelL_app_inv h2
    exact ⟨c1 ++ d1, d2, F1 ++ G1, G2, by rw [hc, e1, List.append_assoc], by rw [hF, e2, List.append_assoc], ⟨c1, d1, F1, G1, rfl, rfl, h1, e3⟩, e4⟩

section
variable {X : Cx} {st : St} {a : Act} {w : World} {B : Nat → Prop} {G : Nat → PG} {E : Operand → Option EV}

theorem rows_add {w : World} {ad : Addr} (hs : ad.spot = none) {cs : List Value} (h : Rows w ad.block ad.off cs) : ∀ j v, cs[j]? = some v → w.cell? (ad.add j) = some v := by
  intro j v hj
  have := h j v hj
  unfold Addr.add
  split
  · rename_i h0; subst h0
    obtain ⟨b, o, s⟩ := ad
    have hs : s = none := hs
    subst hs
    exact this
  · obtain ⟨b, o, s⟩ := ad; exact this

/-- what is appended -/
theorem elems_src {t2 : TypeId} {ty : Ty} {yv : T ty} {v : Value} {F : List Nat} (hv : VR w B ty yv v F) {g : (e : Ty) × (T ty → List (T e))} (hg : elems ty = some g) (hfit : lenFits (X.P.underlying t2) ty = true) (hp : g.1.pure = true) {sz : Nat} (hsz : sz = g.1.size) :
    ∃ news, Src X.P sz t2 v (g.2 yv).length news w ∧ RelL (Rel w B g.1) (g.2 yv) news [] := by
  subst hsz
  have hsl : ∀ e, (match X.P.underlying t2 with | some (.slice e') => True | _ => False) → ∀ (xs : List (T e)) (u : Value), e.pure = true → v = u → SlR w B e.size (Rel w B e) xs u false → ∃ news, Src X.P e.size t2 v xs.length news w ∧ RelL (Rel w B e) xs news [] := by
    intro e hu xs u hpe hvu ⟨sa, cap, cells, hsv, hle, hcap, _, hcl, hrel, hsa⟩
    obtain ⟨e', he'⟩ : ∃ e', X.P.underlying t2 = some (.slice e') := by
      split at hu
      · rename_i e' h; exact ⟨e', h⟩
      · exact hu.elim
    subst hvu; subst hsv
    have hone : ∀ u ∈ cells, u.oneCell' = true := fun u hu => plain_one' (RelL_plain (fun x cs F h => Rel_plain w B e x cs F h) _ _ _ hrel u hu)
    cases sa with
    | none =>
      have hc0 : cap = 0 := hsa
      have hx0 : xs = [] := List.eq_nil_of_length_eq_zero (by omega)
      subst hx0
      have hcells : cells = [] := List.eq_nil_of_length_eq_zero (by rw [hcl]; simp)
      subst hcells
      exact ⟨[], Src.ofNil w he' cap, hrel⟩
    | some ad =>
      have hrow := hsa
      refine ⟨cells, Src.ofSlice w he' ad xs.length cap cells hcl ?_ hone, hrel⟩
      rcases hrow with hx0 | ⟨hsp, _, hrow⟩
      · subst hx0
        have hcells : cells = [] := List.eq_nil_of_length_eq_zero (by rw [hcl]; simp)
        subst hcells
        intro j v hj; simp at hj
      · exact rows_add hsp hrow
  have how : ∀ e, (match X.P.underlying t2 with | some (.slice e') => True | _ => False) → ∀ (xs : List (T e)) (u : Value), e.pure = true → v = u → OwR w e.size (Rel w B e) xs u F → ∃ news, Src X.P e.size t2 v xs.length news w ∧ RelL (Rel w B e) xs news [] := by
    intro e hu xs u hpe hvu how
    obtain ⟨e', he'⟩ : ∃ e', X.P.underlying t2 = some (.slice e') := by
      split at hu
      · rename_i e' h; exact ⟨e', h⟩
      · exact hu.elim
    subst hvu
    rcases how with ⟨hx0, hsv, _⟩ | ⟨b, cap, c, F', hsv, hle, hcap, hblk, hcs, hrel, _⟩
    · subst hx0; subst hsv
      exact ⟨[], Src.ofNil w he' 0, rfl, rfl⟩
    · subst hsv
      have hF' : F' = [] := RelL_F (fun x cs F hx => Rel_pure w B e x cs F hpe hx) _ _ _ hrel
      subst hF'
      refine ⟨_, Src.ofSlice w he' ⟨b, 0, none⟩ xs.length cap _ (RelL_length (fun x cs F h => Rel_length w B e x cs F h) _ _ _ hrel) ?_ (fun u hu => plain_one' (RelL_plain (fun x cs F h => Rel_plain w B e x cs F h) _ _ _ hrel u hu)), hrel⟩
      refine rows_add rfl fun j v hj => ?_
      rw [hblk.cell]
      have := take_getElem? hj
      simpa using this
  have hun : (match X.P.underlying t2 with | some (.slice e') => True | _ => False) ∨ ty = .str := by
    cases hu : X.P.underlying t2 with
    | none => rw [hu] at hfit; cases hfit
    | some u => rw [hu] at hfit; cases u <;> cases ty <;> first | (cases hfit; done) | (exact .inl trivial) | (exact .inr rfl)
  obtain ⟨hR, ha⟩ := hv
  cases ty with
  | str =>
    obtain rfl := Option.some.inj hg
    obtain ⟨b, hb, hbs, hbl, _⟩ := hR
    have hb := cells_one hb ha
    subst hb
    have hstr : X.P.underlying t2 = some .string := by
      cases hu : X.P.underlying t2 with
      | none => rw [hu] at hfit; cases hfit
      | some u => rw [hu] at hfit; cases u <;> first | rfl | (cases hfit)
    refine ⟨byteCells b, ?_, ?_⟩
    · have := Src.ofString (P := X.P) w hstr b
      have hl : b.size = List.length (α := Int) yv := by rw [← hbs, bytesOf_length]
      rw [hl] at this
      exact this
    · rw [← hbs]
      show RelL (Rel w B (.int .u8)) (bytesOf b) (byteCells b) []
      unfold bytesOf byteCells
      generalize b.data.toList = l
      induction l with
      | nil => exact ⟨rfl, rfl⟩
      | cons c l ih => exact ⟨[.int .u8 c.toNat], _, [], [], rfl, rfl, ⟨rfl, byte_inR c, rfl⟩, ih⟩
  | slice e =>
    obtain rfl := Option.some.inj hg
    obtain ⟨_, u, hu, hs⟩ := hR
    exact hsl e (hun.resolve_right (by simp)) yv u hp (cells_one hu ha) hs
  | own e =>
    obtain rfl := Option.some.inj hg
    obtain ⟨u, hu, hs⟩ := hR
    exact how e (hun.resolve_right (by simp)) yv u hp (cells_one hu ha) hs
  | app e =>
    obtain rfl := Option.some.inj hg
    obtain ⟨u, hu, hs⟩ := hR
    rcases hs with hs | ⟨_, hs⟩
    · exact how e (hun.resolve_right (by simp)) yv u hp (cells_one hu ha) hs
    · refine hsl e (hun.resolve_right (by simp)) yv u hp (cells_one hu ha) ?_
      obtain ⟨a1, a2, a3, h1, h2, h3, _, h5⟩ := hs
      exact ⟨a1, a2, a3, h1, h2, h3, by simp, h5⟩
  | nils e =>
    obtain rfl := Option.some.inj hg
    obtain ⟨hu, _⟩ := hR
    exact how e (hun.resolve_right (by simp)) [] _ hp (cells_one hu ha) (.inl ⟨rfl, rfl, by rename_i h; exact h⟩)
  | _ => cases hg

theorem appBase_ok (h : Inv X st a w B G) {ex : EV} {v : Value} (he : EVR (tv a) w B G (look st) ex v) {b : ABase} (hb : appBase (look st) ex = some b) :
    ∃ G1 F, Inv X (applyU b.upd st) a w B G1 ∧ F.Nodup ∧ (∀ x ∈ F, ¬ B x ∧ (x < X.w0.heap.size → x ∈ X.ob)) ∧ (∀ x ∈ F, ∀ m d, lk m (applyU b.upd st).pl = some d → x ∉ (G1 m).blocks) ∧
      (OwR w b.e.size (Rel w B b.e) b.xs v F ∨ (b.app = true ∧ F = [] ∧ SlR w B b.e.size (Rel w B b.e) b.xs v true)) := by
  have junk : ∀ {n : Nat} {p : Path} {d : Dyn} {y : ODyn} {yv : T y.ty} {z : ODyn} {zv : T z.ty}, lk n st.pl = some d → getP ⟨d.ty, some d.val⟩ p = some y → y.val = some yv → EVR (tv a) w B G (look st) (.at_ n p) v → y.ty.isAgg = false → y.ty.size = 1 → sk y.ty = .bool →
      setP ⟨d.ty, some d.val⟩ p ⟨.junk, some ()⟩ = some z → z.val = some zv →
      ∃ G1 F, Inv X (applyU [(n, .keep ⟨z.ty, zv⟩)] st) a w B G1 ∧ F.Nodup ∧ (∀ x ∈ F, ¬ B x ∧ (x < X.w0.heap.size → x ∈ X.ob)) ∧ (∀ x ∈ F, ∀ m d, lk m (applyU [(n, .keep ⟨z.ty, zv⟩)] st).pl = some d → x ∉ (G1 m).blocks) ∧ Rel w B y.ty yv [v] F := by
    intro n p d y yv z zv hd hy hyv he hag hsz hsk hz hzv
    obtain ⟨o, mid, F2, ho, hmid, hm, hin, hnd, hrep⟩ := h.cut hd hy hyv
    simp only [EVR] at he
    obtain ⟨d1, o1, u1, hd1, ho1, hvc, hva⟩ := he
    have hd1 : lk n st.pl = some d1 := hd1
    rw [hd] at hd1
    obtain rfl := Option.some.inj hd1
    rw [ho] at ho1
    simp only [Option.some.injEq, Prod.mk.injEq] at ho1
    obtain ⟨rfl, rfl⟩ := ho1
    have hmv : mid = [v] := by
      have hvm : v.cells.toList = mid := by rw [hvc, hmid]
      have hl := Rel_length w B _ _ _ _ hm
      rw [hsz] at hl
      obtain ⟨c, hc⟩ := List.length_eq_one_iff.1 hl
      rw [hc] at hvm ⊢
      rw [cells_one hvm (by rw [hva, hag])]
    subst hmv
    obtain ⟨G', hI, _, _, hap, _, _⟩ := hrep B .junk () z zv (fun _ h => h) (fun _ h => .inl h) (by rw [hsk]; rfl) ⟨⟨v, rfl, Rel_plain w B _ _ _ _ hm v (by simp)⟩, rfl⟩ hz hzv
    obtain ⟨_, hsep⟩ := h.sep n d hd
    exact ⟨G', F2, hI, hnd, fun x hx => hsep x (PG.mem_blocks (hin x hx)), hap, hm⟩
  unfold appBase at hb
  split at hb
  · rename_i n p
    obtain ⟨d, hd, hb⟩ := bind_some hb
    obtain ⟨y, hy, hb⟩ := bind_some hb
    split at hb
    · rename_i e xs
      obtain ⟨z, hz, hb⟩ := bind_some hb
      split at hb
      · rename_i t zv
        obtain rfl := Option.some.inj hb
        obtain ⟨G1, F, h1, h2, h3, h4, h5⟩ := junk hd hy rfl he rfl rfl rfl hz rfl
        obtain ⟨u, hu, how⟩ := h5
        obtain rfl := (List.cons.inj hu).1
        exact ⟨G1, F, h1, h2, h3, h4, .inl how⟩
      · cases hb
    · rename_i e xs
      obtain ⟨z, hz, hb⟩ := bind_some hb
      split at hb
      · rename_i t zv
        obtain rfl := Option.some.inj hb
        obtain ⟨G1, F, h1, h2, h3, h4, h5⟩ := junk hd hy rfl he rfl rfl rfl hz rfl
        obtain ⟨u, hu, how⟩ := h5
        obtain rfl := (List.cons.inj hu).1
        exact ⟨G1, F, h1, h2, h3, h4, how.imp id fun h => ⟨rfl, h⟩⟩
      · cases hb
    · cases hb
  · rename_i e u
    obtain rfl := Option.some.inj hb
    simp only [EVR] at he
    obtain ⟨_, ⟨hv, _⟩, ha⟩ := he
    have hv := cells_one hv ha
    exact ⟨G, [], h, by simp, by simp, by simp, .inl (.inl ⟨rfl, hv, rfl⟩)⟩
  · rename_i e xs
    obtain rfl := Option.some.inj hb
    simp only [EVR] at he
    exact ⟨G, [], h, by simp, by simp, by simp, .inr ⟨rfl, rfl, he.2⟩⟩
  · cases hb

theorem mkApp_rel {app : Bool} {e : Ty} {xs : List (T e)} {v : Value} {F : List Nat} (h : OwR w e.size (Rel w B e) xs v F) : Rel w B (mkApp app e xs).ty (mkApp app e xs).val [v] F := by
  cases app with
  | true => exact ⟨v, rfl, .inl h⟩
  | false => exact ⟨v, rfl, h⟩

theorem mkApp_ty (app : Bool) (e : Ty) (xs : List (T e)) : (mkApp app e xs).ty.size = 1 ∧ (mkApp app e xs).ty.isAgg = false := by cases app <;> exact ⟨rfl, rfl⟩

/-- the place of what was appended -/
theorem Inv.newApp (h : Inv X st a w B G) {n : Nat} (hn : n % 2 = 0) {d : Dyn} {v : Value} {F : List Nat} {w' : World} (hsz : w.heap.size ≤ w'.heap.size) (hrest : w'.tape = w.tape ∧ w'.os = w.os ∧ w'.output = w.output)
    (hsame : ∀ b, b < w.heap.size → b ∉ F → Same w w' b) (hd : d.ty.size = 1 ∧ d.ty.isAgg = false) (hR : Rel w' B d.ty d.val [v] F) (hnd : F.Nodup) (hsep : ∀ b ∈ F, ¬ B b ∧ (b < X.w0.heap.size → b ∈ X.ob))
    (hap : ∀ b ∈ F, ∀ m d', lk m st.pl = some d' → b ∉ (G m).blocks) : ∃ G', Inv X (applyU [(n, .new d)] st) a w' B G' ∧ EVR (tv a) w' B G' (look (applyU [(n, .new d)] st)) (.at_ n []) v := by
  have hvc : v.cells.toList = [v] := by
    have := Rel_plain w' B _ _ _ _ hR v (by simp)
    cases v <;> first | rfl | (cases this)
  have hva : Value.agg? v = false := by
    have := Rel_plain w' B _ _ _ _ hR v (by simp)
    cases v <;> first | rfl | (cases this)
  exact ⟨setG G n ⟨none, [v], F⟩, h.newPl (g := ⟨none, [v], F⟩) hsz hrest hsame hn ⟨hR, trivial⟩ hnd hsep hap, at_new (by rw [hvc]) (by rw [hvc, hd.1]; rfl) (by rw [hva, hd.2])⟩

theorem relL_same {e : Ty} {xs : List (T e)} {cs : List Value} {w' : World} (hB : ∀ b, B b → Same w w' b) (h : RelL (Rel w B e) xs cs []) : RelL (Rel w' B e) xs cs [] :=
  RelL_of h (fun _ _ _ hx hF => Rel_same hB (fun _ h => h) _ _ _ _ hx (fun b hb => by have := hF b hb; cases this))

theorem op_append (h : Inv X st a w B G) (hE : EOk X st a w B G E) {o : Oper} {c : Call} (ho : o.op = .call c) (hc : c.callee = .builtin .append) {Γ : Nat → Option CSem} {dst : Nat} {r : ORes} (he : evalOp X.P Γ (look st) E dst (.call c) o.type = some r) {x : r.α} (hx : r.run = some x) :
    Does X st a w o (r.out x).ev (r.out x).upd := by
  simp only [evalOp, hc] at he
  split at he
  · rename_i zx zy t t2 hargs htys
    obtain ⟨ex, hex, he⟩ := bind_some he
    obtain ⟨ey, hey, he⟩ := bind_some he
    obtain ⟨ex', hfx, he⟩ := bind_some he
    obtain ⟨ey', hfy, he⟩ := bind_some he
    obtain ⟨ys, hys, he⟩ := bind_some he
    have hvx := fix_ok (hE zx ex hex) hfx
    have hvy := fix_ok (hE zy ey hey) hfy
    unfold appendOp at he
    split at he
    · rename_i e g hu hg
      split at he
      · rename_i hk
        simp only [Bool.and_eq_true, Bool.not_eq_true'] at hk
        obtain ⟨⟨⟨⟨⟨hso, hpu⟩, hs0⟩, hfit⟩, hby⟩, hzs⟩ := hk
        obtain ⟨b, hb, he⟩ := bind_some he
        split at he
        · rename_i hge
          obtain rfl := Option.some.inj he
          obtain ⟨yty, yval⟩ := ys
          cases yval with
          | none => cases hx
          | some yv =>
          obtain ⟨Fy, hRy⟩ := rd_ok h hvy hys
          obtain ⟨inf, hinf, hisz, _⟩ := sizeOk_info hso
          obtain ⟨news, hsrc, hnews⟩ := elems_src (X := X) (t2 := t2) hRy hg hfit hpu hisz
          obtain ⟨be, bxs, bapp, bupd⟩ := b
          obtain ⟨ge, gf⟩ := g
          have hge : ge = be := hge
          subst hge
          have hsrc : Src X.P inf.size t2 (a.eval zy) (gf yv).length news w := hsrc
          have hnews : RelL (Rel w B ge) (gf yv) news [] := hnews
          generalize hyl : gf yv = yl at hsrc hnews
          have hx : roomI (X.P.bytesOf e) bxs yl = some x := by rw [← hyl]; exact hx
          unfold roomI at hx
          split at hx
          rotate_left
          · cases hx
          rename_i hroom
          obtain rfl := Option.some.inj hx
          obtain ⟨G1, F, hI, hFn, hFs, hFap, hbase⟩ := appBase_ok h hvx hb
          have hbytes : X.P.bytesOf e = inf.bytes := by simp [Program.bytesOf, hinf]
          have hby : 0 < inf.bytes := by rw [← hbytes]; simpa [Nat.blt_eq] using hby
          rw [hbytes] at hroom
          have hneed : bxs.length + yl.length ≤ 140737488355328 := Nat.le_trans (Nat.le_mul_of_pos_right _ hby) hroom
          obtain ⟨z, hz, hzsz⟩ : ∃ z, inf.zero = some z ∧ z.cells.size = inf.size := by
            unfold zeroSz at hzs
            rw [hinf] at hzs
            simp only [Option.bind_some] at hzs
            split at hzs
            · rename_i z hz
              exact ⟨z, hz, by rw [Nat.eq_of_beq_eq_true hzs, hisz]⟩
            · cases hzs
          have hsz0 : ge.size ≠ 0 := fun e => by simp only at hs0; rw [e] at hs0; simp at hs0
          have hisz : inf.size = ge.size := hisz
          have hnl : news.length = yl.length * ge.size := by rw [← hisz]; exact hsrc.newsLen
          have hexec : ∀ v u, (Builtin.append_ #[t, t2] o.type #[a.eval zx, a.eval zy]).run X.P w = .ok v u → (execOp a.eval o).run X.P w = .ok (.value v) u := by
            intro v u hr
            obtain ⟨cs, hcs⟩ := exec_builtin (w := w) (ρ := a.eval) ho hc X.P
            have h1 : c.argTypes = #[t, t2] := by apply Array.ext'; simpa using htys
            have h2 : c.args.map a.eval = #[a.eval zx, a.eval zy] := by apply Array.ext'; rw [mapA hargs]; simp
            rw [hcs, h1, h2]
            simp [builtin, hr]
          have hgrow : ∀ base sCap olds, a.eval zx = .slice base bxs.length sCap → (Builtin.firstCells inf.size bxs.length (.slice base bxs.length sCap)).run X.P w.drew = .ok olds.toArray w.drew → RelL (Rel w B ge) bxs olds [] → sCap < bxs.length + yl.length →
              Does X st a w o (.at_ (nameOf dst 0) []) (bupd ++ [(nameOf dst 0, .new (mkApp bapp ge (bxs ++ yl)))]) := by
            intro base sCap olds hvz hold hrel hlt
            have hfit2 := growslice_fits (bytes := inf.bytes) hlt hroom
            have hr := run_append_grow_src (P := X.P) w t t2 o.type e inf z hu hinf hz base bxs.length sCap olds hold (a.eval zy) yl.length news hsrc hlt (by omega) hfit2
            rw [← hvz] at hr
            have hge := grownCap_ge w (bxs.length + yl.length) sCap e
            have hgm := grownCap_le_maxLen w (bxs.length + yl.length) sCap e (by unfold maxLen; omega)
            have hB2 : ∀ b, B b → Same w (w.drew.alloc (.cells ((olds ++ news).toArray ++ Builtin.zeroCells z.cells (grownCap w (bxs.length + yl.length) sCap e - (bxs.length + yl.length))) e)) b := fun b hb => (more_push w _).same b (h.bsz b hb)
            have hol := RelL_length (fun x cs F h => Rel_length w B ge x cs F h) _ _ _ hrel
            have hon : (olds ++ news).length = (bxs ++ yl).length * ge.size := by rw [List.length_append, List.length_append, hol, hnl, Nat.add_mul]
            have hown : OwR (w.drew.alloc (.cells ((olds ++ news).toArray ++ Builtin.zeroCells z.cells (grownCap w (bxs.length + yl.length) sCap e - (bxs.length + yl.length))) e)) ge.size
                (Rel (w.drew.alloc (.cells ((olds ++ news).toArray ++ Builtin.zeroCells z.cells (grownCap w (bxs.length + yl.length) sCap e - (bxs.length + yl.length))) e)) B ge) (bxs ++ yl)
                (.slice (some ⟨w.heap.size, 0, none⟩) (bxs.length + yl.length) (grownCap w (bxs.length + yl.length) sCap e)) [w.heap.size] := by
              refine .inr ⟨w.heap.size, _, _, [], by rw [List.length_append], by rw [List.length_append]; exact hge, hgm, blk_push w.drew _ e, ?_, ?_, rfl⟩
              · simp only [Array.size_append, List.size_toArray, size_zeroCells, hzsz, hisz, hon, List.length_append, ← Nat.add_mul]
                congr 1; omega
              · rw [Array.toList_append, ← hon, List.take_left' rfl]
                have := RelL_append _ _ _ _ _ _ (relL_same hB2 hrel) (relL_same hB2 hnews)
                simpa using this
            obtain ⟨G', hI2, hev⟩ := hI.newApp (nameOf_even dst 0) (d := mkApp bapp ge (bxs ++ yl)) (w' := w.drew.alloc (.cells ((olds ++ news).toArray ++ Builtin.zeroCells z.cells (grownCap w (bxs.length + yl.length) sCap e - (bxs.length + yl.length))) e)) (F := [w.heap.size]) (more_push w _).size ⟨rfl, rfl, rfl⟩ (fun b hb _ => (more_push w _).same b hb) (mkApp_ty _ _ _) (mkApp_rel hown) (by simp)
              (by intro b hb
                  obtain rfl := List.mem_singleton.1 hb
                  exact ⟨fun hB => Nat.lt_irrefl _ (h.bsz _ hB), fun hlt => absurd (Nat.lt_of_lt_of_le hlt h.size) (Nat.lt_irrefl _)⟩)
              (by intro b hb m d' hm
                  obtain rfl := List.mem_singleton.1 hb
                  exact heap_fresh hI hm)
            rw [← applyU_append] at hI2 hev
            exact Does.value (hexec _ _ hr) hI2 hev
          have hnone : a.eval zx = .slice none 0 0 → bxs = [] → F = [] → Does X st a w o (.at_ (nameOf dst 0) []) (bupd ++ [(nameOf dst 0, .new (mkApp bapp ge (bxs ++ yl)))]) := by
            intro hvz hb0 hF0
            subst hb0
            by_cases hn0 : yl.length = 0
            · have hy0 : yl = [] := List.eq_nil_of_length_eq_zero hn0
              subst hy0
              have hw0 : news = [] := List.eq_nil_of_length_eq_zero (by rw [hnl]; simp)
              subst hw0
              obtain ⟨G', hI2, hev⟩ := hI.newApp (nameOf_even dst 0) (d := mkApp bapp ge ([] ++ [])) (w' := w) (F := []) (v := .slice none 0 0) (Nat.le_refl _) ⟨rfl, rfl, rfl⟩ (fun _ _ _ => rfl) (mkApp_ty _ _ _) (mkApp_rel (.inl ⟨rfl, rfl, rfl⟩)) (by simp) (by simp) (by simp)
              rw [← applyU_append] at hI2 hev
              refine Does.value (hexec _ _ ?_) hI2 hev
              have hl := hsrc.len w
              have hcl : (Builtin.firstCells inf.size 0 (a.eval zy)).run X.P w = .ok #[] w := hsrc.cells
              rcases hsrc.kind with ⟨e', hk⟩ | hk <;> simp [Builtin.append_, run_underlying hu, run_underlying hk, sizeOf, typeInfo, hinf, hvz, hl, hcl]
            · exact hgrow none 0 [] hvz (run_firstCells_none w.drew inf.size 0 0 0) ⟨rfl, rfl⟩ (by simp; omega)
          have hbase : OwR w ge.size (Rel w B ge) bxs (a.eval zx) F ∨ (bapp = true ∧ F = [] ∧ SlR w B ge.size (Rel w B ge) bxs (a.eval zx) true) := hbase
          rcases hbase with (⟨hb0, hsv, hF0⟩ | ⟨bb, cap, cc, F', hsv, hle, hcap, hblk, hcs, hrel, hFF⟩) | ⟨happ, hF0, sa, cap, cells, hsv, hle, hcap, hclip, hcl, hrel, hsa⟩
          · exact hnone hsv hb0 hF0
          · have hF' : F' = [] := RelL_F (fun x cs F hx => Rel_pure w B ge x cs F hpu hx) _ _ _ hrel
            subst hF'
            subst hFF
            have hccl : cc.toList.length = cap * ge.size := by rw [← hcs]; simp
            have htl : (cc.toList.take (bxs.length * ge.size)).length = bxs.length * ge.size := by
              rw [List.length_take, hccl]; exact Nat.min_eq_left (Nat.mul_le_mul_right _ hle)
            by_cases hrm : bxs.length + yl.length ≤ cap
            · have hroom2 : bxs.length * ge.size + news.length ≤ cap * ge.size := by rw [hnl, ← Nat.add_mul]; exact Nat.mul_le_mul_right _ hrm
              have hin : ∀ j, j < news.length → bxs.length * ge.size + j < cc.size := fun j hj => by rw [hcs]; omega
              have hr := run_append_room_src (P := X.P) w t t2 o.type e inf hu hinf bb 0 bxs.length cap (a.eval zy) yl.length news hsrc hrm
                (fun j hj => by rw [hblk.cell, Option.isSome_iff_exists, hisz, Nat.zero_add]; exact ⟨_, Array.getElem?_eq_getElem (hin j hj)⟩)
                (fun j hj => by
                  obtain ⟨ty', fr, h1, h2⟩ := hblk
                  unfold World.frozen?
                  rw [h1]
                  exact h2 _ (by rw [hisz, Nat.zero_add]; exact hin j hj))
              rw [← hsv, hisz, Nat.zero_add] at hr
              obtain ⟨ty, fr, hheap, hfr⟩ := hblk
              have hcsplit : cc.toList = cc.toList.take (bxs.length * ge.size) ++ (cc.toList.drop (bxs.length * ge.size)).take news.length ++ (cc.toList.drop (bxs.length * ge.size)).drop news.length := by
                rw [List.append_assoc, List.take_append_drop, List.take_append_drop]
              obtain ⟨c', hheap', hcl'⟩ := setCells_ok bb news (bxs.length * ge.size) w cc _ _ _ hheap hcsplit htl (by rw [List.length_take, List.length_drop, hccl]; omega)
              obtain ⟨hsz', htape, hos, hout⟩ := setCells_rest bb news (bxs.length * ge.size) w
              have hcsz : c'.size = cc.size := by
                have k1 := congrArg List.length hcl'
                simp only [List.length_append, Array.length_toList, htl, List.length_drop, hccl] at k1
                omega
              have hBs : ∀ b, B b → Same w (w.setCells bb news.length []) b := fun _ _ => rfl
              have hBs : ∀ b, B b → Same w (w.setCells bb (bxs.length * ge.size) news) b := fun b hb => setCells_other bb news _ w b (fun e => (hFs bb (by simp)).1 (e ▸ hb))
              have hown : OwR (w.setCells bb (bxs.length * ge.size) news) ge.size (Rel (w.setCells bb (bxs.length * ge.size) news) B ge) (bxs ++ yl) (.slice (some ⟨bb, 0, none⟩) (bxs.length + yl.length) cap) [bb] := by
                refine .inr ⟨bb, cap, c', [], by rw [List.length_append], by rw [List.length_append]; exact hrm, hcap, ⟨ty, fr, hheap', fun i hi => hfr i (by rw [← hcsz]; exact hi)⟩, by rw [hcsz, hcs], ?_, rfl⟩
                have hll : (cc.toList.take (bxs.length * ge.size) ++ news).length = (bxs ++ yl).length * ge.size := by rw [List.length_append, List.length_append, htl, hnl, Nat.add_mul]
                rw [hcl', ← hll, List.take_left']
                · have := RelL_append _ _ _ _ _ _ (relL_same hBs hrel) (relL_same hBs hnews)
                  simpa using this
                · rfl
              obtain ⟨G', hI2, hev⟩ := hI.newApp (nameOf_even dst 0) (d := mkApp bapp ge (bxs ++ yl)) (w' := w.setCells bb (bxs.length * ge.size) news) (F := [bb]) (by omega) ⟨htape, hos, hout⟩
                (fun b _ hb => setCells_other bb news _ w b (by simpa using hb)) (mkApp_ty _ _ _) (mkApp_rel hown) hFn hFs hFap
              rw [← applyU_append] at hI2 hev
              exact Does.value (hexec _ _ hr) hI2 hev
            · refine hgrow _ cap _ hsv ?_ hrel (by omega)
              exact run_firstCells_some w.drew inf.size bxs.length ⟨bb, 0, none⟩ bxs.length cap _ (by rw [htl, hisz]) (rows_add rfl fun j v hj => by
                have hj := take_getElem? hj
                have : w.cell? ⟨bb, 0 + j, none⟩ = some v := by rw [hblk.cell, Nat.zero_add]; simpa using hj
                exact this)
          · have hcl2 := hclip rfl
            subst hcl2
            subst hF0
            have hfirst : (Builtin.firstCells inf.size bxs.length (.slice sa bxs.length bxs.length)).run X.P w.drew = .ok cells.toArray w.drew := by
              cases sa with
              | none =>
                have hb0 : bxs.length = 0 := hsa
                have hc0 : cells = [] := List.eq_nil_of_length_eq_zero (by rw [hcl, hb0]; simp)
                subst hc0
                exact run_firstCells_none w.drew inf.size bxs.length bxs.length bxs.length
              | some ad =>
                have hrow := hsa
                refine run_firstCells_some w.drew inf.size bxs.length ad bxs.length bxs.length cells (by rw [hcl, hisz]) ?_
                rcases hrow with hb0 | ⟨hsp, _, hrow⟩
                · have hc0 : cells = [] := List.eq_nil_of_length_eq_zero (by rw [hcl, hb0]; simp)
                  subst hc0
                  intro j v hj; simp at hj
                · exact rows_add hsp hrow
            by_cases hn0 : yl.length = 0
            · have hy0 : yl = [] := List.eq_nil_of_length_eq_zero hn0
              subst hy0
              have hw0 : news = [] := List.eq_nil_of_length_eq_zero (by rw [hnl]; simp)
              subst hw0
              subst happ
              have hRR : Rel w B (mkApp true ge (bxs ++ [])).ty (mkApp true ge (bxs ++ [])).val [a.eval zx] [] := by
                rw [List.append_nil]
                exact ⟨_, rfl, .inr ⟨rfl, sa, bxs.length, cells, hsv, hle, hcap, hclip, hcl, hrel, hsa⟩⟩
              obtain ⟨G', hI2, hev⟩ := hI.newApp (nameOf_even dst 0) (d := mkApp true ge (bxs ++ [])) (w' := w) (F := []) (Nat.le_refl _) ⟨rfl, rfl, rfl⟩ (fun _ _ _ => rfl) (mkApp_ty _ _ _) hRR (by simp) (by simp) (by simp)
              rw [← applyU_append] at hI2 hev
              refine Does.value (hexec _ _ ?_) hI2 hev
              have hl := hsrc.len w
              have hcl3 : (Builtin.firstCells inf.size 0 (a.eval zy)).run X.P w = .ok #[] w := hsrc.cells
              rw [hsv]
              cases sa with
              | none => rcases hsrc.kind with ⟨e', hk⟩ | hk <;> simp [Builtin.append_, run_underlying hu, run_underlying hk, sizeOf, typeInfo, hinf, hl, hcl3]
              | some ad => rcases hsrc.kind with ⟨e', hk⟩ | hk <;> simp [Builtin.append_, run_underlying hu, run_underlying hk, sizeOf, typeInfo, hinf, hl, hcl3, storeCells]
            · exact hgrow sa bxs.length cells hsv hfirst hrel (by omega)
        · cases he
      · cases he
    · cases he
  · cases he

end
end
end Go.Pv
