/- A plain run of Go code, and that the machine does what it says. -/
import Derived.Laws.BytesArg
import Derived.Laws.IdiomStrings
import Derived.Laws.RangeAny
import Derived.Lib.OthersKept
import Derived.Test.YtkpiocglghnnhaaDoorQ2

set_option linter.unusedSimpArgs false
set_option linter.unusedVariables false

namespace Go.Pv
noncomputable section
universe u v

theorem RelL_app_inv {α : Type} {R : α → List Value → List Nat → Prop} : ∀ {xs ys : List α} {cs : List Value} {F : List Nat}, RelL R (xs ++ ys) cs F → ∃ c1 c2 F1 F2, cs = c1 ++ c2 ∧ F = F1 ++ F2 ∧ RelL R xs c1 F1 ∧ RelL R ys c2 F2
 | [], _, cs, F, h => ⟨[], cs, [], F, rfl, rfl, ⟨rfl, rfl⟩, h⟩
 | x :: xs, ys, cs, F, ⟨c1, c2, F1, F2, hc, hF, h1, h2⟩ => by
  obtain ⟨d1, d2, G1, G2, e1, e2, e3, e4⟩ := RelL_app_inv h2
  exact ⟨c1 ++ d1, d2, F1 ++ G1, G2, by rw [hc, e1, List.append_assoc], by rw [hF, e2, List.append_assoc], ⟨c1, d1, F1, G1, rfl, rfl, h1, e3⟩, e4⟩

section
variable {X : Cx} {st : St} {a : Act} {w : World} {B : Nat → Prop} {G : Nat → PG} {E : Operand → Option EV}

theorem rows_add {w : World} {ad : Addr} (hs : ad.spot = none) {cs : List Value} (h : Rows w ad.block ad.off cs) : ∀ j v, cs[j]? = some v → w.cell? (ad.add j) = some v := by
 intro j v hj
 have := h j v hj
 unfold Addr.add
 split
 ·rename_i h0; subst h0
  obtain ⟨b, o, s⟩ := ad
  have hs : s = none := hs
  subst hs
  exact this
 ·obtain ⟨b, o, s⟩ := ad; exact this

theorem elems_src {t2 : TypeId} {ty : Ty} {yv : T ty} {v : Value} {F : List Nat} (hv : VR w B ty yv v F) {g : (e : Ty) × (T ty → List (T e))} (hg : elems ty = some g) (hfit : lenFits (X.P.underlying t2) ty = true) (hp : g.1.pure = true) {sz : Nat} (hsz : sz = g.1.size) :
  ∃ news, Src X.P sz t2 v (g.2 yv).length news w ∧ RelL (Rel w B g.1) (g.2 yv) news [] := by
 subst hsz
 have hsl : ∀ e, (match X.P.underlying t2 with | some (.slice e') => True | _ => False) → ∀ (xs : List (T e)) (u : Value), e.pure = true → v = u → SlR w B e.size (Rel w B e) xs u false → ∃ news, Src X.P e.size t2 v xs.length news w ∧ RelL (Rel w B e) xs news [] := by
  intro e hu xs u hpe hvu ⟨sa, cap, cells, hsv, hle, hcap, _, hcl, hrel, hsa⟩
  obtain ⟨e', he'⟩ : ∃ e', X.P.underlying t2 = some (.slice e') := by
   split at hu
   ·rename_i e' h; exact ⟨e', h⟩
   ·exact hu.elim
  subst hvu; subst hsv
  have hone : ∀ u ∈ cells, u.oneCell' = true := fun u hu => plain_one' (RelL_plain (fun x cs F h => Rel_plain w B e x cs F h) _ _ _ hrel u hu)
  cases sa with
  | none =>
   have hc0 : cap = 0 := hsa
   have hx0 : xs = [] := List.eq_nil_of_length_eq_zero (by omega)
   subst hx0
   have hcells : cells = [] := List.eq_nil_of_length_eq_zero (by rw [hcl]; simp)
   subst hcells
   exact ⟨[], Src.ofNil w he' cap, hrel⟩
  | some ad =>
   have hrow := hsa
   refine ⟨cells, Src.ofSlice w he' ad xs.length cap cells hcl ?_ hone, hrel⟩
   rcases hrow with hx0 | ⟨hsp, _, hrow⟩
   ·subst hx0
    have hcells : cells = [] := List.eq_nil_of_length_eq_zero (by rw [hcl]; simp)
    subst hcells
    intro j v hj; simp at hj
   ·exact rows_add hsp hrow
 have how : ∀ e, (match X.P.underlying t2 with | some (.slice e') => True | _ => False) → ∀ (xs : List (T e)) (u : Value), e.pure = true → v = u → OwR w e.size (Rel w B e) xs u F → ∃ news, Src X.P e.size t2 v xs.length news w ∧ RelL (Rel w B e) xs news [] := by
  intro e hu xs u hpe hvu how
  obtain ⟨e', he'⟩ : ∃ e', X.P.underlying t2 = some (.slice e') := by
   split at hu
   ·rename_i e' h; exact ⟨e', h⟩
   ·exact hu.elim
  subst hvu
  rcases how with ⟨hx0, hsv, _⟩ | ⟨b, cap, c, F', hsv, hle, hcap, hblk, hcs, hrel, _⟩
  ·subst hx0; subst hsv
   exact ⟨[], Src.ofNil w he' 0, rfl, rfl⟩
  ·subst hsv
   have hF' : F' = [] := RelL_F (fun x cs F hx => Rel_pure w B e x cs F hpe hx) _ _ _ hrel
   subst hF'
   refine ⟨_, Src.ofSlice w he' ⟨b, 0, none⟩ xs.length cap _ (RelL_length (fun x cs F h => Rel_length w B e x cs F h) _ _ _ hrel) ?_ (fun u hu => plain_one' (RelL_plain (fun x cs F h => Rel_plain w B e x cs F h) _ _ _ hrel u hu)), hrel⟩
   refine rows_add rfl fun j v hj => ?_
   rw [hblk.cell]
   have := take_getElem? hj
   simpa using this
 have hun : (match X.P.underlying t2 with | some (.slice e') => True | _ => False) ∨ ty = .str := by
  cases hu : X.P.underlying t2 with
  | none => rw [hu] at hfit; cases hfit
  | some u => rw [hu] at hfit; cases u <;> cases ty <;> first | (cases hfit; done) | (exact .inl trivial) | (exact .inr rfl)
 obtain ⟨hR, ha⟩ := hv
 cases ty with
 | str =>
  obtain rfl := Option.some.inj hg
  obtain ⟨b, hb, hbs, hbl, _⟩ := hR
  have hb := cells_one hb ha
  subst hb
  have hstr : X.P.underlying t2 = some .string := by
   cases hu : X.P.underlying t2 with
   | none => rw [hu] at hfit; cases hfit
   | some u => rw [hu] at hfit; cases u <;> first | rfl | (cases hfit)
  refine ⟨byteCells b, ?_, ?_⟩
  ·have := Src.ofString (P := X.P) w hstr b
   have hl : b.size = List.length (α := Int) yv := by rw [← hbs, bytesOf_length]
   rw [hl] at this
   exact this
  ·rw [← hbs]
   show RelL (Rel w B (.int .u8)) (bytesOf b) (byteCells b) []
   unfold bytesOf byteCells
   generalize b.data.toList = l
   induction l with
   | nil => exact ⟨rfl, rfl⟩
   | cons c l ih => exact ⟨[.int .u8 c.toNat], _, [], [], rfl, rfl, ⟨rfl, byte_inR c, rfl⟩, ih⟩
 | slice e =>
  obtain rfl := Option.some.inj hg
  obtain ⟨_, u, hu, hs⟩ := hR
  exact hsl e (hun.resolve_right (by simp)) yv u hp (cells_one hu ha) hs
 | own e =>
  obtain rfl := Option.some.inj hg
  obtain ⟨u, hu, hs⟩ := hR
  exact how e (hun.resolve_right (by simp)) yv u hp (cells_one hu ha) hs
 | app e =>
  obtain rfl := Option.some.inj hg
  obtain ⟨u, hu, hs⟩ := hR
  rcases hs with hs | ⟨_, hs⟩
  ·exact how e (hun.resolve_right (by simp)) yv u hp (cells_one hu ha) hs
  ·refine hsl e (hun.resolve_right (by simp)) yv u hp (cells_one hu ha) ?_
   obtain ⟨a1, a2, a3, h1, h2, h3, _, h5⟩ := hs
   exact ⟨a1, a2, a3, h1, h2, h3, by simp, h5⟩
 | nils e =>
  obtain rfl := Option.some.inj hg
  obtain ⟨hu, _⟩ := hR
  exact how e (hun.resolve_right (by simp)) [] _ hp (cells_one hu ha) (.inl ⟨rfl, rfl, by rename_i h; exact h⟩)
 | _ => cases hg

structure Rest (st : St) (a : Act) (w : World) (B : Nat → Prop) (G : Nat → PG) (U : Upds) (G' : Nat → PG) (F : List Nat) : Prop where
 from_ : From st G B (applyU U st) G' B
 src : ∀ b ∈ F, ∃ n d, lk n st.pl = some d ∧ b ∈ (G n).blocks
 keep : ∀ n d, n ∉ updNames U → lk n st.pl = some d → lk n (applyU U st).pl = some d ∧ G' n = G n
 ev : ∀ e' v', EVR (tv a) w B G (look st) e' v' → EVR (tv a) w B G' (look (applyU U st)) e' v'

theorem Rest.triv {st : St} {a : Act} {w : World} {B : Nat → Prop} {G : Nat → PG} : Rest st a w B G [] G [] := ⟨From.refl st G B, by simp, fun _ _ _ h => ⟨h, rfl⟩, fun _ _ h => h⟩

theorem appBase_ok' (h : Inv X st a w B G) {ex : EV} {v : Value} (he : EVR (tv a) w B G (look st) ex v) {b : ABase} (hb : appBase (look st) ex = some b) :
  ∃ G1 F, Inv X (applyU b.upd st) a w B G1 ∧ F.Nodup ∧ (∀ x ∈ F, ¬ B x ∧ (x < X.w0.heap.size → x ∈ X.ob)) ∧ (∀ x ∈ F, ∀ m d, lk m (applyU b.upd st).pl = some d → x ∉ (G1 m).blocks) ∧
   (OwR w b.e.size (Rel w B b.e) b.xs v F ∨ (b.app = true ∧ F = [] ∧ SlR w B b.e.size (Rel w B b.e) b.xs v true)) ∧ Rest st a w B G b.upd G1 F := by
 have junk : ∀ {n : Nat} {p : Path} {d : Dyn} {y : ODyn} {yv : T y.ty} {z : ODyn} {zv : T z.ty}, lk n st.pl = some d → getP ⟨d.ty, some d.val⟩ p = some y → y.val = some yv → EVR (tv a) w B G (look st) (.at_ n p) v → y.ty.isAgg = false → y.ty.size = 1 → sk y.ty = .bool →
   setP ⟨d.ty, some d.val⟩ p ⟨.junk, some ()⟩ = some z → z.val = some zv →
   ∃ G1 F, Inv X (applyU [(n, .keep ⟨z.ty, zv⟩)] st) a w B G1 ∧ F.Nodup ∧ (∀ x ∈ F, ¬ B x ∧ (x < X.w0.heap.size → x ∈ X.ob)) ∧ (∀ x ∈ F, ∀ m d, lk m (applyU [(n, .keep ⟨z.ty, zv⟩)] st).pl = some d → x ∉ (G1 m).blocks) ∧ Rel w B y.ty yv [v] F ∧ Rest st a w B G [(n, .keep ⟨z.ty, zv⟩)] G1 F := by
  intro n p d y yv z zv hd hy hyv he hag hsz hsk hz hzv
  obtain ⟨o, mid, F2, ho, hmid, hm, hin, hnd, hrep⟩ := h.cut hd hy hyv
  simp only [EVR] at he
  obtain ⟨d1, o1, u1, hd1, ho1, hvc, hva⟩ := he
  have hd1 : lk n st.pl = some d1 := hd1
  rw [hd] at hd1
  obtain rfl := Option.some.inj hd1
  rw [ho] at ho1
  simp only [Option.some.injEq, Prod.mk.injEq] at ho1
  obtain ⟨rfl, rfl⟩ := ho1
  have hmv : mid = [v] := by
   have hvm : v.cells.toList = mid := by rw [hvc, hmid]
   have hl := Rel_length w B _ _ _ _ hm
   rw [hsz] at hl
   obtain ⟨c, hc⟩ := List.length_eq_one_iff.1 hl
   rw [hc] at hvm ⊢
   rw [cells_one hvm (by rw [hva, hag])]
  subst hmv
  obtain ⟨G', hI, hcc, haa, hap, hsb, hgn⟩ := hrep B .junk () z zv (fun _ h => h) (fun _ h => .inl h) (by rw [hsk]; rfl) ⟨⟨v, rfl, Rel_plain w B _ _ _ _ hm v (by simp)⟩, rfl⟩ hz hzv
  obtain ⟨_, hsep⟩ := h.sep n d hd
  refine ⟨G', F2, hI, hnd, fun x hx => hsep x (PG.mem_blocks (hin x hx)), hap, hm, ⟨From.keep hd hsb (fun b hb => .inl hb), fun b hb => ⟨n, d, hd, PG.mem_blocks (hin b hb)⟩, fun m dm hm hdm => ⟨by rw [applyU_pl_other _ _ _ hm]; exact hdm, hgn m (by simpa [updNames] using hm)⟩, fun e' v' h' => ?_⟩⟩
  refine EVR_keep (fun b hb => ⟨rfl, hb⟩) hcc haa (look_keep hd ?_) h'
  exact setP_sk p ⟨d.ty, some d.val⟩ y ⟨.junk, some ()⟩ z hy hz (by rw [hsk]; rfl)
 unfold appBase at hb
 split at hb
 ·rename_i n p
  obtain ⟨d, hd, hb⟩ := bind_some hb
  obtain ⟨y, hy, hb⟩ := bind_some hb
  split at hb
  ·rename_i e xs
   obtain ⟨z, hz, hb⟩ := bind_some hb
   split at hb
   ·rename_i t zv
    obtain rfl := Option.some.inj hb
    obtain ⟨G1, F, h1, h2, h3, h4, h5, h6⟩ := junk hd hy rfl he rfl rfl rfl hz rfl
    obtain ⟨u, hu, how⟩ := h5
    obtain rfl := (List.cons.inj hu).1
    exact ⟨G1, F, h1, h2, h3, h4, .inl how, h6⟩
   ·cases hb
  ·rename_i e xs
   obtain ⟨z, hz, hb⟩ := bind_some hb
   split at hb
   ·rename_i t zv
    obtain rfl := Option.some.inj hb
    obtain ⟨G1, F, h1, h2, h3, h4, h5, h6⟩ := junk hd hy rfl he rfl rfl rfl hz rfl
    obtain ⟨u, hu, how⟩ := h5
    obtain rfl := (List.cons.inj hu).1
    exact ⟨G1, F, h1, h2, h3, h4, how.imp id (fun h => ⟨rfl, h⟩), h6⟩
   ·cases hb
  ·cases hb
 ·rename_i e u
  obtain rfl := Option.some.inj hb
  simp only [EVR] at he
  obtain ⟨_, ⟨hv, _⟩, ha⟩ := he
  have hv := cells_one hv ha
  exact ⟨G, [], h, by simp, by simp, by simp, .inl (.inl ⟨rfl, hv, rfl⟩), Rest.triv⟩
 ·rename_i e xs
  obtain rfl := Option.some.inj hb
  simp only [EVR] at he
  exact ⟨G, [], h, by simp, by simp, by simp, .inr ⟨rfl, rfl, he.2⟩, Rest.triv⟩
 ·cases hb

theorem appBase_ok (h : Inv X st a w B G) {ex : EV} {v : Value} (he : EVR (tv a) w B G (look st) ex v) {b : ABase} (hb : appBase (look st) ex = some b) :
  ∃ G1 F, Inv X (applyU b.upd st) a w B G1 ∧ F.Nodup ∧ (∀ x ∈ F, ¬ B x ∧ (x < X.w0.heap.size → x ∈ X.ob)) ∧ (∀ x ∈ F, ∀ m d, lk m (applyU b.upd st).pl = some d → x ∉ (G1 m).blocks) ∧
   (OwR w b.e.size (Rel w B b.e) b.xs v F ∨ (b.app = true ∧ F = [] ∧ SlR w B b.e.size (Rel w B b.e) b.xs v true)) := by
 obtain ⟨G1, F, h1, h2, h3, h4, h5, _⟩ := appBase_ok' h he hb
 exact ⟨G1, F, h1, h2, h3, h4, h5⟩

theorem retype_ok {t : Ty} (hp : t.pure = true) {e : EV} {v : Value} (he : EVR (tv a) w B G (look st) e v) : EVR (tv a) w B G (look st) (retype t e) v := by
 unfold retype
 split
 ·simp only [EVR] at he ⊢
  exact ⟨hp, he.2.1, he.2.2⟩
 ·exact he

theorem mkApp_rel {app : Bool} {e : Ty} {xs : List (T e)} {v : Value} {F : List Nat} (h : OwR w e.size (Rel w B e) xs v F) : Rel w B (mkApp app e xs).ty (mkApp app e xs).val [v] F := by
 cases app with
 | true => exact ⟨v, rfl, .inl h⟩
 | false => exact ⟨v, rfl, h⟩

theorem mkApp_ty (app : Bool) (e : Ty) (xs : List (T e)) : (mkApp app e xs).ty.size = 1 ∧ (mkApp app e xs).ty.isAgg = false := by cases app <;> exact ⟨rfl, rfl⟩

theorem Inv.newApp (h : Inv X st a w B G) {n : Nat} (hn : n % 2 = 0) {d : Dyn} {v : Value} {F : List Nat} {w' : World} (hsz : w.heap.size ≤ w'.heap.size) (hrest : w'.tape = w.tape ∧ w'.os = w.os ∧ w'.output = w.output ∧ (X.dr = true → w.drawn ≤ w'.drawn))
  (hsame : ∀ b, b < w.heap.size → b ∉ F → Same w w' b) (hd : d.ty.size = 1 ∧ d.ty.isAgg = false) (hR : Rel w' B d.ty d.val [v] F) (hnd : F.Nodup) (hsep : ∀ b ∈ F, ¬ B b ∧ (b < X.w0.heap.size → b ∈ X.ob))
  (hap : ∀ b ∈ F, ∀ m d', lk m st.pl = some d' → b ∉ (G m).blocks) : ∃ G', Inv X (applyU [(n, .new d)] st) a w' B G' ∧ EVR (tv a) w' B G' (look (applyU [(n, .new d)] st)) (.at_ n []) v := by
 have hvc : v.cells.toList = [v] := by
  have := Rel_plain w' B _ _ _ _ hR v (by simp)
  cases v <;> first | rfl | (cases this)
 have hva : Value.agg? v = false := by
  have := Rel_plain w' B _ _ _ _ hR v (by simp)
  cases v <;> first | rfl | (cases this)
 exact ⟨setG G n ⟨none, [v], F⟩, h.newPl (g := ⟨none, [v], F⟩) hsz hrest hsame hn ⟨hR, trivial⟩ hnd hsep hap, at_new (by rw [hvc]) (by rw [hvc, hd.1]; rfl) (by rw [hva, hd.2])⟩

theorem relL_same {e : Ty} {xs : List (T e)} {cs : List Value} {w' : World} (hB : ∀ b, B b → Same w w' b) (h : RelL (Rel w B e) xs cs []) : RelL (Rel w' B e) xs cs [] :=
 RelL_of h (fun _ _ _ hx hF => Rel_same hB (fun _ h => h) _ _ _ _ hx (fun b hb => by have := hF b hb; cases this))

theorem op_append (h : Inv X st a w B G) (hE : EOk X st a w B G E) {o : Oper} {c : Call} (ho : o.op = .call c) (hc : c.callee = .builtin .append) {Γ : Nat → Option CSem} {dst : Nat} {r : ORes} (he : evalOp X.P Γ (look st) E dst (.call c) o.type = some r) {x : r.α} (hx : r.run = some x) :
    Does X st a w o (r.out x).ev (r.out x).upd := by
  simp only [evalOp, hc] at he
  split at he
  · rename_i zx zy t t2 hargs htys
    obtain ⟨ex, hex, he⟩ := bind_some he
    obtain ⟨ey, hey, he⟩ := bind_some he
    obtain ⟨ex', hfx, he⟩ := bind_some he
    obtain ⟨ey', hfy, he⟩ := bind_some he
    obtain ⟨ys, hys, he⟩ := bind_some he
    have hvx := fix_ok (hE zx ex hex) hfx
    have hvy := fix_ok (hE zy ey hey) hfy
    unfold appendOp at he
    split at he
    · rename_i e g hu hg
      split at he
      · rename_i hk
        simp only [Bool.and_eq_true, Bool.not_eq_true'] at hk
        obtain ⟨⟨⟨⟨⟨hso, hpu⟩, hs0⟩, hfit⟩, hby⟩, hzs⟩ := hk
        obtain ⟨b, hb, he⟩ := bind_some he
        split at he
        · rename_i hge
          obtain rfl := Option.some.inj he
          obtain ⟨yty, yval⟩ := ys
          cases yval with
          | none => cases hx
          | some yv =>
          obtain ⟨Fy, hRy⟩ := rd_ok h hvy hys
          obtain ⟨inf, hinf, hisz, _⟩ := sizeOk_info hso
          obtain ⟨news, hsrc, hnews⟩ := elems_src (X := X) (t2 := t2) hRy hg hfit hpu hisz
          obtain ⟨be, bxs, bapp, bupd⟩ := b
          obtain ⟨ge, gf⟩ := g
          have hge : ge = be := hge
          subst hge
          have hsrc : Src X.P inf.size t2 (a.eval zy) (gf yv).length news w := hsrc
          have hnews : RelL (Rel w B ge) (gf yv) news [] := hnews
          generalize hyl : gf yv = yl at hsrc hnews
          have hx : roomI (X.P.bytesOf e) bxs yl = some x := by rw [← hyl]; exact hx
          unfold roomI at hx
          split at hx
          rotate_left
          · cases hx
          rename_i hroom
          obtain rfl := Option.some.inj hx
          obtain ⟨G1, F, hI, hFn, hFs, hFap, hbase⟩ := appBase_ok h (retype_ok hpu hvx) hb
          have hbytes : X.P.bytesOf e = inf.bytes := by simp [Program.bytesOf, hinf]
          have hby : 0 < inf.bytes := by rw [← hbytes]; simpa [Nat.blt_eq] using hby
          rw [hbytes] at hroom
          have hneed : bxs.length + yl.length ≤ 140737488355328 := Nat.le_trans (Nat.le_mul_of_pos_right _ hby) hroom
          obtain ⟨z, hz, hzsz⟩ : ∃ z, inf.zero = some z ∧ z.cells.size = inf.size := by
            unfold zeroSz at hzs
            rw [hinf] at hzs
            simp only [Option.bind_some] at hzs
            split at hzs
            · rename_i z hz
              exact ⟨z, hz, by rw [Nat.eq_of_beq_eq_true hzs, hisz]⟩
            · cases hzs
          have hsz0 : ge.size ≠ 0 := fun e => by simp only at hs0; rw [e] at hs0; simp at hs0
          have hisz : inf.size = ge.size := hisz
          have hnl : news.length = yl.length * ge.size := by rw [← hisz]; exact hsrc.newsLen
          have hexec : ∀ v u, (Builtin.append_ #[t, t2] o.type #[a.eval zx, a.eval zy]).run X.P w = .ok v u → (execOp a.eval o).run X.P w = .ok (.value v) u := by
            intro v u hr
            obtain ⟨cs, hcs⟩ := exec_builtin (w := w) (ρ := a.eval) ho hc X.P
            have h1 : c.argTypes = #[t, t2] := by apply Array.ext'; simpa using htys
            have h2 : c.args.map a.eval = #[a.eval zx, a.eval zy] := by apply Array.ext'; rw [mapA hargs]; simp
            rw [hcs, h1, h2]
            simp [builtin, hr]
          have hgrow : ∀ base sCap olds, a.eval zx = .slice base bxs.length sCap → (Builtin.firstCells inf.size bxs.length (.slice base bxs.length sCap)).run X.P w.drew = .ok olds.toArray w.drew → RelL (Rel w B ge) bxs olds [] → sCap < bxs.length + yl.length →
              Does X st a w o (.at_ (nameOf dst 0) []) (bupd ++ [(nameOf dst 0, .new (mkApp bapp ge (bxs ++ yl)))]) := by
            intro base sCap olds hvz hold hrel hlt
            have hfit2 := growslice_fits (bytes := inf.bytes) hlt hroom
            have hr := run_append_grow_src (P := X.P) w t t2 o.type e inf z hu hinf hz base bxs.length sCap olds hold (a.eval zy) yl.length news hsrc hlt (by omega) hfit2
            rw [← hvz] at hr
            have hge := grownCap_ge w (bxs.length + yl.length) sCap e
            have hgm := grownCap_le_maxLen w (bxs.length + yl.length) sCap e (by unfold maxLen; omega)
            have hB2 : ∀ b, B b → Same w (w.drew.alloc (.cells ((olds ++ news).toArray ++ Builtin.zeroCells z.cells (grownCap w (bxs.length + yl.length) sCap e - (bxs.length + yl.length))) e)) b := fun b hb => (more_push w _).same b (h.bsz b hb)
            have hol := RelL_length (fun x cs F h => Rel_length w B ge x cs F h) _ _ _ hrel
            have hon : (olds ++ news).length = (bxs ++ yl).length * ge.size := by rw [List.length_append, List.length_append, hol, hnl, Nat.add_mul]
            have hown : OwR (w.drew.alloc (.cells ((olds ++ news).toArray ++ Builtin.zeroCells z.cells (grownCap w (bxs.length + yl.length) sCap e - (bxs.length + yl.length))) e)) ge.size
                (Rel (w.drew.alloc (.cells ((olds ++ news).toArray ++ Builtin.zeroCells z.cells (grownCap w (bxs.length + yl.length) sCap e - (bxs.length + yl.length))) e)) B ge) (bxs ++ yl)
                (.slice (some ⟨w.heap.size, 0, none⟩) (bxs.length + yl.length) (grownCap w (bxs.length + yl.length) sCap e)) [w.heap.size] := by
              refine .inr ⟨w.heap.size, _, _, [], by rw [List.length_append], by rw [List.length_append]; exact hge, hgm, blk_push w.drew _ e, ?_, ?_, rfl⟩
              · simp only [Array.size_append, List.size_toArray, size_zeroCells, hzsz, hisz, hon, List.length_append, ← Nat.add_mul]
                congr 1; omega
              · rw [Array.toList_append, ← hon, List.take_left' rfl]
                have := RelL_append _ _ _ _ _ _ (relL_same hB2 hrel) (relL_same hB2 hnews)
                simpa using this
            obtain ⟨G', hI2, hev⟩ := hI.newApp (nameOf_even dst 0) (d := mkApp bapp ge (bxs ++ yl)) (w' := w.drew.alloc (.cells ((olds ++ news).toArray ++ Builtin.zeroCells z.cells (grownCap w (bxs.length + yl.length) sCap e - (bxs.length + yl.length))) e)) (F := [w.heap.size]) (more_push w _).size ⟨rfl, rfl, rfl, fun _ => Nat.le_succ _⟩ (fun b hb _ => (more_push w _).same b hb) (mkApp_ty _ _ _) (mkApp_rel hown) (by simp)
              (by intro b hb
                  obtain rfl := List.mem_singleton.1 hb
                  exact ⟨fun hB => Nat.lt_irrefl _ (h.bsz _ hB), fun hlt => absurd (Nat.lt_of_lt_of_le hlt h.size) (Nat.lt_irrefl _)⟩)
              (by intro b hb m d' hm
                  obtain rfl := List.mem_singleton.1 hb
                  exact heap_fresh hI hm)
            rw [← applyU_append] at hI2 hev
            exact Does.value (hexec _ _ hr) hI2 hev
          have hnone : a.eval zx = .slice none 0 0 → bxs = [] → F = [] → Does X st a w o (.at_ (nameOf dst 0) []) (bupd ++ [(nameOf dst 0, .new (mkApp bapp ge (bxs ++ yl)))]) := by
            intro hvz hb0 hF0
            subst hb0
            by_cases hn0 : yl.length = 0
            · have hy0 : yl = [] := List.eq_nil_of_length_eq_zero hn0
              subst hy0
              have hw0 : news = [] := List.eq_nil_of_length_eq_zero (by rw [hnl]; simp)
              subst hw0
              obtain ⟨G', hI2, hev⟩ := hI.newApp (nameOf_even dst 0) (d := mkApp bapp ge ([] ++ [])) (w' := w) (F := []) (v := .slice none 0 0) (Nat.le_refl _) ⟨rfl, rfl, rfl, fun _ => Nat.le_refl _⟩ (fun _ _ _ => rfl) (mkApp_ty _ _ _) (mkApp_rel (.inl ⟨rfl, rfl, rfl⟩)) (by simp) (by simp) (by simp)
              rw [← applyU_append] at hI2 hev
              refine Does.value (hexec _ _ ?_) hI2 hev
              have hl := hsrc.len w
              have hcl : (Builtin.firstCells inf.size 0 (a.eval zy)).run X.P w = .ok #[] w := hsrc.cells
              rcases hsrc.kind with ⟨e', hk⟩ | hk <;> simp [Builtin.append_, run_underlying hu, run_underlying hk, sizeOf, typeInfo, hinf, hvz, hl, hcl]
            · exact hgrow none 0 [] hvz (run_firstCells_none w.drew inf.size 0 0 0) ⟨rfl, rfl⟩ (by simp; omega)
          have hbase : OwR w ge.size (Rel w B ge) bxs (a.eval zx) F ∨ (bapp = true ∧ F = [] ∧ SlR w B ge.size (Rel w B ge) bxs (a.eval zx) true) := hbase
          rcases hbase with (⟨hb0, hsv, hF0⟩ | ⟨bb, cap, cc, F', hsv, hle, hcap, hblk, hcs, hrel, hFF⟩) | ⟨happ, hF0, sa, cap, cells, hsv, hle, hcap, hclip, hcl, hrel, hsa⟩
          · exact hnone hsv hb0 hF0
          · have hF' : F' = [] := RelL_F (fun x cs F hx => Rel_pure w B ge x cs F hpu hx) _ _ _ hrel
            subst hF'
            subst hFF
            have hccl : cc.toList.length = cap * ge.size := by rw [← hcs]; simp
            have htl : (cc.toList.take (bxs.length * ge.size)).length = bxs.length * ge.size := by
              rw [List.length_take, hccl]; exact Nat.min_eq_left (Nat.mul_le_mul_right _ hle)
            by_cases hrm : bxs.length + yl.length ≤ cap
            · have hroom2 : bxs.length * ge.size + news.length ≤ cap * ge.size := by rw [hnl, ← Nat.add_mul]; exact Nat.mul_le_mul_right _ hrm
              have hin : ∀ j, j < news.length → bxs.length * ge.size + j < cc.size := fun j hj => by rw [hcs]; omega
              have hr := run_append_room_src (P := X.P) w t t2 o.type e inf hu hinf bb 0 bxs.length cap (a.eval zy) yl.length news hsrc hrm
                (fun j hj => by rw [hblk.cell, Option.isSome_iff_exists, hisz, Nat.zero_add]; exact ⟨_, Array.getElem?_eq_getElem (hin j hj)⟩)
                (fun j hj => by
                  obtain ⟨ty', fr, h1, h2⟩ := hblk
                  unfold World.frozen?
                  rw [h1]
                  exact h2 _ (by rw [hisz, Nat.zero_add]; exact hin j hj))
              rw [← hsv, hisz, Nat.zero_add] at hr
              obtain ⟨ty, fr, hheap, hfr⟩ := hblk
              have hcsplit : cc.toList = cc.toList.take (bxs.length * ge.size) ++ (cc.toList.drop (bxs.length * ge.size)).take news.length ++ (cc.toList.drop (bxs.length * ge.size)).drop news.length := by
                rw [List.append_assoc, List.take_append_drop, List.take_append_drop]
              obtain ⟨c', hheap', hcl'⟩ := setCells_ok bb news (bxs.length * ge.size) w cc _ _ _ hheap hcsplit htl (by rw [List.length_take, List.length_drop, hccl]; omega)
              obtain ⟨hsz', htape, hos, hout, hdr⟩ := setCells_rest bb news (bxs.length * ge.size) w
              have hcsz : c'.size = cc.size := by
                have k1 := congrArg List.length hcl'
                simp only [List.length_append, Array.length_toList, htl, List.length_drop, hccl] at k1
                omega
              have hBs : ∀ b, B b → Same w (w.setCells bb news.length []) b := fun _ _ => rfl
              have hBs : ∀ b, B b → Same w (w.setCells bb (bxs.length * ge.size) news) b := fun b hb => setCells_other bb news _ w b (fun e => (hFs bb (by simp)).1 (e ▸ hb))
              have hown : OwR (w.setCells bb (bxs.length * ge.size) news) ge.size (Rel (w.setCells bb (bxs.length * ge.size) news) B ge) (bxs ++ yl) (.slice (some ⟨bb, 0, none⟩) (bxs.length + yl.length) cap) [bb] := by
                refine .inr ⟨bb, cap, c', [], by rw [List.length_append], by rw [List.length_append]; exact hrm, hcap, ⟨ty, fr, hheap', fun i hi => hfr i (by rw [← hcsz]; exact hi)⟩, by rw [hcsz, hcs], ?_, rfl⟩
                have hll : (cc.toList.take (bxs.length * ge.size) ++ news).length = (bxs ++ yl).length * ge.size := by rw [List.length_append, List.length_append, htl, hnl, Nat.add_mul]
                rw [hcl', ← hll, List.take_left']
                · have := RelL_append _ _ _ _ _ _ (relL_same hBs hrel) (relL_same hBs hnews)
                  simpa using this
                · rfl
              obtain ⟨G', hI2, hev⟩ := hI.newApp (nameOf_even dst 0) (d := mkApp bapp ge (bxs ++ yl)) (w' := w.setCells bb (bxs.length * ge.size) news) (F := [bb]) (by omega) ⟨htape, hos, hout, fun _ => hdr⟩
                (fun b _ hb => setCells_other bb news _ w b (by simpa using hb)) (mkApp_ty _ _ _) (mkApp_rel hown) hFn hFs hFap
              rw [← applyU_append] at hI2 hev
              exact Does.value (hexec _ _ hr) hI2 hev
            · refine hgrow _ cap _ hsv ?_ hrel (by omega)
              exact run_firstCells_some w.drew inf.size bxs.length ⟨bb, 0, none⟩ bxs.length cap _ (by rw [htl, hisz]) (rows_add rfl fun j v hj => by
                have hj := take_getElem? hj
                have : w.cell? ⟨bb, 0 + j, none⟩ = some v := by rw [hblk.cell, Nat.zero_add]; simpa using hj
                exact this)
          · have hcl2 := hclip rfl
            subst hcl2
            subst hF0
            have hfirst : (Builtin.firstCells inf.size bxs.length (.slice sa bxs.length bxs.length)).run X.P w.drew = .ok cells.toArray w.drew := by
              cases sa with
              | none =>
                have hb0 : bxs.length = 0 := hsa
                have hc0 : cells = [] := List.eq_nil_of_length_eq_zero (by rw [hcl, hb0]; simp)
                subst hc0
                exact run_firstCells_none w.drew inf.size bxs.length bxs.length bxs.length
              | some ad =>
                have hrow := hsa
                refine run_firstCells_some w.drew inf.size bxs.length ad bxs.length bxs.length cells (by rw [hcl, hisz]) ?_
                rcases hrow with hb0 | ⟨hsp, _, hrow⟩
                · have hc0 : cells = [] := List.eq_nil_of_length_eq_zero (by rw [hcl, hb0]; simp)
                  subst hc0
                  intro j v hj; simp at hj
                · exact rows_add hsp hrow
            by_cases hn0 : yl.length = 0
            · have hy0 : yl = [] := List.eq_nil_of_length_eq_zero hn0
              subst hy0
              have hw0 : news = [] := List.eq_nil_of_length_eq_zero (by rw [hnl]; simp)
              subst hw0
              subst happ
              have hRR : Rel w B (mkApp true ge (bxs ++ [])).ty (mkApp true ge (bxs ++ [])).val [a.eval zx] [] := by
                rw [List.append_nil]
                exact ⟨_, rfl, .inr ⟨rfl, sa, bxs.length, cells, hsv, hle, hcap, hclip, hcl, hrel, hsa⟩⟩
              obtain ⟨G', hI2, hev⟩ := hI.newApp (nameOf_even dst 0) (d := mkApp true ge (bxs ++ [])) (w' := w) (F := []) (Nat.le_refl _) ⟨rfl, rfl, rfl, fun _ => Nat.le_refl _⟩ (fun _ _ _ => rfl) (mkApp_ty _ _ _) hRR (by simp) (by simp) (by simp)
              rw [← applyU_append] at hI2 hev
              refine Does.value (hexec _ _ ?_) hI2 hev
              have hl := hsrc.len w
              have hcl3 : (Builtin.firstCells inf.size 0 (a.eval zy)).run X.P w = .ok #[] w := hsrc.cells
              rw [hsv]
              cases sa with
              | none => rcases hsrc.kind with ⟨e', hk⟩ | hk <;> simp [Builtin.append_, run_underlying hu, run_underlying hk, sizeOf, typeInfo, hinf, hl, hcl3]
              | some ad => rcases hsrc.kind with ⟨e', hk⟩ | hk <;> simp [Builtin.append_, run_underlying hu, run_underlying hk, sizeOf, typeInfo, hinf, hl, hcl3, storeCells]
            · exact hgrow sa bxs.length cells hsv hfirst hrel (by omega)
        · cases he
      · cases he
    · cases he
  · cases he

end
end
end Go.Pv

namespace Go.Pv
noncomputable section
universe u v

section
variable {X : Cx} {st : St} {a : Act} {w : World} {B : Nat → Prop} {G : Nat → PG} {E : Operand → Option EV}

def Bnd (r : Option (Option Int)) (v : Option Value) : Prop := match r, v with
 | none, none => True
 | some oi, some v => ∀ i, oi = some i → ∃ k, v = .int k i
 | _, _ => False

theorem optI_ok (h : Inv X st a w B G) (hE : EOk X st a w B G E) {oz : Option Operand} {oe : Option EV} (he : (match oz with | none => some none | some z => (E z).map some) = some oe) {r : Option (Option Int)} (hr : optI (look st) oe = some r) : Bnd r (oz.map a.eval) := by
 cases oz with
 | none =>
  obtain rfl := Option.some.inj he
  simp only [optI, Option.some.injEq] at hr
  subst hr
  trivial
 | some z =>
  obtain ⟨e, hez, rfl⟩ := Option.map_eq_some_iff.1 he
  simp only [optI] at hr
  obtain ⟨⟨k, oi⟩, hi, rfl⟩ := Option.map_eq_some_iff.1 hr
  intro i hoi
  have hoi : oi = some i := hoi
  subst hoi
  exact ⟨k, (int?_ok h (hE z e hez) hi).1⟩

theorem run_bound {P : Program} {v : Value} {k : IntKind} {i : Int} {y : Nat} {c : BoundsCode} (hv : v = .int k i) (h0 : 0 ≤ i) (h1 : i ≤ y) : (Instr.sliceBound v y c).run P w = .ok i.toNat w := by
 subst hv
 simp [Instr.sliceBound, asIntOf, h0, h1]

theorem run_bounds {P : Program} {lo hi : Option (Option Int)} {vl vh : Option Value} {isS : Bool} {len cap : Nat} (hlc : len ≤ cap) {l h : Int}
  (hlo : (match lo with | some l => l | none => some 0) = some l) (hhi : (match hi with | some h => h | none => some (len : Int)) = some h) (h0 : 0 ≤ l) (h1 : l ≤ h) (h2 : h ≤ len) (hl : Bnd lo vl) (hh : Bnd hi vh) :
  (Instr.sliceBounds isS len cap vl vh none).run P w = .ok (l.toNat, h.toNat, cap) w := by
 have hb : h ≤ (cap : Int) := by omega
 have h3 : (h.toNat : Int) = h := by omega
 have h4 : l ≤ (h.toNat : Int) := by omega
 cases hi with
 | none =>
  cases vh with
  | some v => exact hh.elim
  | none =>
   have hhi : (len : Int) = h := Option.some.inj hhi
   have h5 : h.toNat = len := by omega
   cases lo with
   | none =>
    cases vl with
    | some v => exact hl.elim
    | none =>
     have hlo : (0 : Int) = l := Option.some.inj hlo
     subst hlo
     simp [Instr.sliceBounds, h5]
   | some ol =>
    cases vl with
    | none => exact hl.elim
    | some v =>
     obtain ⟨k, hv⟩ := hl l hlo
     have := run_bound (P := P) (w := w) (y := len) (c := .sliceB) hv h0 (by omega)
     simp [Instr.sliceBounds, this, h5]
 | some oh =>
  cases vh with
  | none => exact hh.elim
  | some v =>
   obtain ⟨k, hv⟩ := hh h hhi
   have hr := fun c => run_bound (P := P) (w := w) (y := cap) (c := c) hv (by omega) hb
   cases lo with
   | none =>
    cases vl with
    | some v => exact hl.elim
    | none =>
     have hlo : (0 : Int) = l := Option.some.inj hlo
     subst hlo
     simp [Instr.sliceBounds, hr]
   | some ol =>
    cases vl with
    | none => exact hl.elim
    | some v2 =>
     obtain ⟨k2, hv2⟩ := hl l hlo
     have hr2 := run_bound (P := P) (w := w) (y := h.toNat) (c := .sliceB) hv2 h0 h4
     simp [Instr.sliceBounds, hr, hr2]

theorem subL_some {α : Type} {xs ys : List α} {l h : Int} (hs : subL xs l h = some ys) : 0 ≤ l ∧ l ≤ h ∧ h ≤ xs.length ∧ ys = (xs.take h.toNat).drop l.toNat := by
 unfold subL at hs
 split at hs
 ·rename_i hc; exact ⟨hc.1, hc.2.1, hc.2.2, (Option.some.inj hs).symm⟩
 ·cases hs

theorem RelL_sub {α : Type} {R : α → List Value → List Nat → Prop} {n : Nat} (hn : ∀ x cs F, R x cs F → cs.length = n) {xs : List α} {cs : List Value} (h : RelL R xs cs []) {i j : Nat} (hj : j ≤ xs.length) : RelL R ((xs.take j).drop i) ((cs.take (j * n)).drop (i * n)) [] := by
 have h1 : RelL R (xs.take j) (cs.take (j * n)) [] := by
  have hx := h
  rw [← List.take_append_drop j xs] at hx
  obtain ⟨c1, c2, F1, F2, hc, hF, k1, k2⟩ := RelL_app_inv hx
  obtain ⟨rfl, rfl⟩ := List.append_eq_nil_iff.1 hF.symm
  have hl := RelL_length hn _ _ _ k1
  rw [List.length_take, Nat.min_eq_left hj] at hl
  rw [hc, ← hl, List.take_left' rfl]
  exact k1
 rcases Nat.lt_or_ge (xs.take j).length i with hi | hi
 ·rw [List.drop_eq_nil_of_le (Nat.le_of_lt hi)]
  have hl := RelL_length hn _ _ _ h1
  have hle : (cs.take (j * n)).length ≤ i * n := by rw [hl]; exact Nat.mul_le_mul_right _ (Nat.le_of_lt hi)
  rw [List.drop_eq_nil_of_le hle]
  exact ⟨rfl, rfl⟩
 ·have hx := h1
  rw [← List.take_append_drop i (xs.take j)] at hx
  obtain ⟨c1, c2, F1, F2, hc, hF, k1, k2⟩ := RelL_app_inv hx
  obtain ⟨rfl, rfl⟩ := List.append_eq_nil_iff.1 hF.symm
  have hl := RelL_length hn _ _ _ k1
  rw [List.length_take, Nat.min_eq_left hi] at hl
  rw [hc, ← hl, List.drop_left' rfl]
  exact k2

theorem bytesOf_extract (s : ByteArray) (l h : Nat) (hh : h ≤ s.size) : bytesOf (s.extract l h) = ((bytesOf s).take h).drop l := by
 unfold bytesOf
 rw [ByteArray.data_extract, Array.toList_extract, List.extract_eq_take_drop, ← List.map_take, ← List.map_drop, List.drop_take]

theorem SlR_sub {e : Ty} {xs : List (T e)} {sa : Option Addr} {cap : Nat} {cl : Bool} {l h m : Nat} (hs : SlR w B e.size (Rel w B e) xs (.slice sa xs.length cap) cl) (h1 : l ≤ h) (h2 : h ≤ xs.length) (hm : h ≤ m) (hmc : m ≤ cap) {cl' : Bool} (hcl' : cl' = true → m = h) :
  SlR w B e.size (Rel w B e) ((xs.take h).drop l) (.slice (if m = l then sa else sa.map (·.add (l * e.size))) (h - l) (m - l)) cl' := by
 obtain ⟨a0, cap0, cells, hv, hle, hcap, _, hcl, hrel, hsa⟩ := hs
 simp only [Value.slice.injEq, true_and] at hv
 obtain ⟨rfl, rfl⟩ := hv
 have hlen : ((xs.take h).drop l).length = h - l := by rw [List.length_drop, List.length_take, Nat.min_eq_left h2]
 have hrel2 := RelL_sub (fun x cs F h => Rel_length w B e x cs F h) hrel (i := l) (j := h) h2
 refine ⟨_, m - l, _, by rw [hlen], by omega, by omega, fun hc => by rw [hlen, hcl' hc], ?_, hrel2, ?_⟩
 ·exact RelL_length (fun x cs F h => Rel_length w B e x cs F h) _ _ _ hrel2
 ·cases sa with
  | none =>
   have hsa : cap = 0 := hsa
   split
   ·omega
   ·rename_i heq
    split at heq
    ·cases heq
    ·cases heq
  | some ad =>
   have hrow := hsa
   by_cases hml : m = l
   ·rw [if_pos hml]
    exact .inl (List.eq_nil_of_length_eq_zero (by rw [hlen]; omega))
   ·rw [if_neg hml]
    show _ ∨ ((ad.add (l * e.size)).spot = none ∧ _)
    rcases hrow with hx | ⟨hsp, hB, hrow⟩
    ·left; rw [hx]; simp
    right
    have hadd : (ad.add (l * e.size)).spot = none ∧ (ad.add (l * e.size)).block = ad.block ∧ (ad.add (l * e.size)).off = ad.off + l * e.size := by
     unfold Addr.add
     split
     ·rename_i h0; exact ⟨hsp, rfl, by rw [h0]; rfl⟩
     ·exact ⟨rfl, rfl, rfl⟩
    refine ⟨hadd.1, ?_⟩
    rw [hadd.2.1, hadd.2.2]
    refine ⟨hB, fun i v hi => ?_⟩
    rw [Nat.add_assoc]
    refine hrow _ v ?_
    rw [List.getElem?_drop] at hi
    exact take_getElem? hi

theorem op_slice (h : Inv X st a w B G) (hE : EOk X st a w B G E) {o : Oper} {t : TypeId} {z : Operand} {lo hi mx : Option Operand} (ho : o.op = .slice t z lo hi mx) {Γ : Nat → Option CSem} {dst : Nat} {r : ORes} (he : evalOp X.P Γ (look st) E dst (.slice t z lo hi mx) o.type = some r) {x : r.α} (hx : r.run = some x) :
  Does X st a w o (r.out x).ev (r.out x).upd := by
 simp only [evalOp] at he
 obtain ⟨ez, hez, he⟩ := bind_some he
 obtain ⟨ez', hfz, he⟩ := bind_some he
 obtain ⟨⟨y, U⟩, hy, he⟩ := bind_some he
 obtain ⟨elo, helo, he⟩ := bind_some he
 obtain ⟨ehi, hehi, he⟩ := bind_some he
 obtain ⟨emx, hemx, he⟩ := bind_some he
 obtain ⟨rlo, hrlo, he⟩ := bind_some he
 obtain ⟨rhi, hrhi, he⟩ := bind_some he
 obtain ⟨rmx, hrmx, he⟩ := bind_some he
 have hv := fix_ok (hE z ez hez) hfz
 have hblo := optI_ok h hE helo hrlo
 have hbhi := optI_ok h hE hehi hrhi
 have hbmx := optI_ok h hE hemx hrmx
 unfold sliceOp at he
 split at he
 ·
  rename_i s hu
  split at he
  ·rename_i ss heq
   have heq : y = ⟨.str, some ss⟩ := heq
   subst heq
   obtain rfl := Option.some.inj he
   obtain ⟨l, hl, hx⟩ := bind_some hx
   obtain ⟨hh, hhh, hx⟩ := bind_some hx
   obtain ⟨h0, h1, h2, hys⟩ := subL_some hx
   obtain ⟨B', G', hI, _, ⟨⟨b, hb, hbs, hbl, _⟩, hag⟩, _, _, _⟩ := take_ok h hv hy rfl
   have hb := cells_one hb hag
   have hlen : (bytesOf b).length = b.size := bytesOf_length b
   subst hbs
   rw [hlen] at h2 hhh
   cases hmx : mx with
   | some m => rw [hmx] at hbmx; exact hbmx.elim
   | none =>
   have hrun := run_bounds (P := X.P) (w := w) (isS := false) (len := b.size) (cap := b.size) (Nat.le_refl _) hl hhh h0 h1 h2 hblo hbhi
   refine Does.value (v := .string (b.extract l.toNat hh.toNat)) ?_ hI ?_
   ·simp [execOp, ho, hb, hmx, Instr.sliceAt, Instr.slice, underlying, hu, hrun]
   ·simp only [EVR]
    refine ⟨rfl, ⟨b.extract l.toNat hh.toNat, rfl, ?_, ?_, rfl⟩, rfl⟩
    ·rw [bytesOf_extract b _ _ (by omega)]; exact hys.symm
    ·rw [ByteArray.size_extract]; omega
  ·cases he
 ·rename_i et hu
  split at he
  ·rename_i e s heq
   have heq : y = ⟨.slice e, s⟩ := heq
   subst heq
   split at he
   ·rename_i hso
    obtain rfl := Option.some.inj he
    cases s with
    | none => cases hx
    | some s' =>
    obtain ⟨l, hl, hx⟩ := bind_some hx
    obtain ⟨hh, hhh, hx⟩ := bind_some hx
    obtain ⟨h0, h1, h2, hys⟩ := subL_some hx
    obtain ⟨B', G', hI, hp, ⟨⟨_, sv, hsv, sa, cap, cells, hcells, hle, hrest⟩, hag⟩, _, _, _⟩ := take_ok h hv hy rfl
    have hsv := cells_one hsv hag
    subst hcells
    cases hmx : mx with
    | some m => rw [hmx] at hbmx; exact hbmx.elim
    | none =>
    have hrun := run_bounds (P := X.P) (w := w) (isS := true) (len := List.length (α := T e) s') (cap := cap) hle hl hhh h0 h1 h2 hblo hbhi
    have hsub := SlR_sub (w := w) (B := B') (l := l.toNat) (h := hh.toNat) (m := cap) ⟨sa, cap, cells, rfl, hle, hrest⟩ (by omega) (by omega) (by omega) (Nat.le_refl _) (cl' := false) (by simp)
    refine Does.value (v := .slice (if cap = l.toNat then sa else sa.map (·.add (l.toNat * e.size))) (hh.toNat - l.toNat) (cap - l.toNat)) ?_ hI ?_
    ·simp [execOp, ho, hsv, hmx, Instr.sliceAt, Instr.slice, underlying, hu, hrun, run_sizeOf hso]
    ·show EVR _ _ _ _ _ (.val ⟨.slice e, x⟩) _
     simp only [EVR]
     refine ⟨hp, ⟨rfl, _, rfl, ?_⟩, rfl⟩
     have hys : x = (s'.take hh.toNat).drop l.toNat := hys
     rw [hys]; exact hsub
   ·cases he
  ·rename_i e s m heq
   have heq : y = ⟨.slice e, s⟩ := heq
   subst heq
   split at he
   ·rename_i hso
    obtain rfl := Option.some.inj he
    cases s with
    | none => cases hx
    | some s' =>
    obtain ⟨l, hl, hx⟩ := bind_some hx
    obtain ⟨hh, hhh, hx⟩ := bind_some hx
    obtain ⟨mm, hmm, hx⟩ := bind_some hx
    split at hx
    rotate_left
    ·cases hx
    rename_i hmh
    subst hmh
    obtain ⟨h0, h1, h2, hys⟩ := subL_some hx
    obtain ⟨B', G', hI, hp, ⟨⟨_, sv, hsv, sa, cap, cells, hcells, hle, hrest⟩, hag⟩, _, _, _⟩ := take_ok h hv hy rfl
    have hsv := cells_one hsv hag
    subst hcells
    cases hmx : mx with
    | none => rw [hmx] at hbmx; exact hbmx.elim
    | some zm =>
    rw [hmx] at hbmx
    obtain ⟨km, hvm⟩ := hbmx mm hmm
    cases rhi with
    | none => cases hhh
    | some ohi =>
    cases hhi2 : hi with
    | none => rw [hhi2] at hbhi; exact hbhi.elim
    | some zh =>
    rw [hhi2] at hbhi
    obtain ⟨kh, hvh⟩ := hbhi mm hhh
    have hrm := fun c => run_bound (P := X.P) (w := w) (y := cap) (c := c) hvm (by omega) (by omega)
    have hrh := fun c => run_bound (P := X.P) (w := w) (y := mm.toNat) (c := c) hvh (by omega) (by omega)
    have hrun : (Instr.sliceBounds true (List.length (α := T e) s') cap (lo.map a.eval) (some (a.eval zh)) (some (a.eval zm))).run X.P w = .ok (l.toNat, mm.toNat, mm.toNat) w := by
     cases hlo2 : lo with
     | none =>
      rw [hlo2] at hblo
      cases rlo with
      | some _ => exact hblo.elim
      | none =>
       have hl : (0 : Int) = l := Option.some.inj hl
       subst hl
       simp [Instr.sliceBounds, hrm, hrh]
     | some zl =>
      rw [hlo2] at hblo
      cases rlo with
      | none => exact hblo.elim
      | some ol =>
       obtain ⟨kl, hvl⟩ := hblo l hl
       have hrl := fun c => run_bound (P := X.P) (w := w) (y := mm.toNat) (c := c) hvl h0 (by omega)
       simp [Instr.sliceBounds, hrm, hrh, hrl]
    have hsub := SlR_sub (w := w) (B := B') (l := l.toNat) (h := mm.toNat) (m := mm.toNat) ⟨sa, cap, cells, rfl, hle, hrest⟩ (by omega) (by omega) (Nat.le_refl _) (by omega) (cl' := true) (fun _ => rfl)
    refine Does.value (v := .slice (if mm.toNat = l.toNat then sa else sa.map (·.add (l.toNat * e.size))) (mm.toNat - l.toNat) (mm.toNat - l.toNat)) ?_ hI ?_
    ·simp [execOp, ho, hsv, hmx, hhi2, Instr.sliceAt, Instr.slice, underlying, hu, hrun, run_sizeOf hso]
    ·show EVR _ _ _ _ _ (.clip e x) _
     simp only [EVR]
     have hys : x = (s'.take mm.toNat).drop l.toNat := hys
     rw [hys]
     exact ⟨hp, hsub⟩
   ·cases he
  ·cases he
 ·cases he

theorem run_iface {P : Program} {t : TypeId} (hi : isIface (P.underlying t) = false) (v : Value) : (Instr.makeInterface t v).run P w = .ok (.iface t v) w := by
 cases hu : P.underlying t with
 | none => rw [hu] at hi; cases hi
 | some d => rw [hu] at hi; cases d <;> first | (cases hi; done) | simp [Instr.makeInterface, underlying, hu]

theorem op_makeInterface (h : Inv X st a w B G) (hE : EOk X st a w B G E) {o : Oper} {t : TypeId} {z : Operand} (ho : o.op = .makeInterface t z) {Γ : Nat → Option CSem} {dst : Nat} {r : ORes} (he : evalOp X.P Γ (look st) E dst (.makeInterface t z) o.type = some r) {x : r.α} (hx : r.run = some x) :
  Does X st a w o (r.out x).ev (r.out x).upd := by
 simp only [evalOp] at he
 obtain ⟨ez, hez, he⟩ := bind_some he
 split at he
 ·cases he
 rename_i hni
 have hni : isIface (X.P.underlying t) = false := by simpa using hni
 have hv := hE z ez hez
 have hrun : (execOp a.eval o).run X.P w = .ok (.value (.iface t (a.eval z))) w := by simp [execOp, ho, run_iface hni]
 unfold ifaceOp at he
 split at he
 ·rename_i n
  obtain ⟨d, hd, he⟩ := bind_some he
  split at he
  ·rename_i hk
   simp only [Bool.and_eq_true] at hk
   obtain rfl := Option.some.inj he
   have hd : lk n st.pl = some d := hd
   simp only [EVR] at hv
   obtain ⟨d1, o1, u1, b, off, hd1, ho1, hg, hvv⟩ := hv
   have hd1 : lk n st.pl = some d1 := hd1
   rw [hd] at hd1
   obtain rfl := Option.some.inj hd1
   simp only [offP, Option.some.injEq, Prod.mk.injEq] at ho1
   obtain ⟨rfl, rfl⟩ := ho1
   obtain ⟨hR, hA⟩ := h.pl n d hd
   rw [hg] at hA
   obtain ⟨hrows, c, hblk⟩ := hA
   obtain ⟨hnd, hsep⟩ := h.sep n d hd
   have hbl : (G n).blocks = b :: (G n).F := by unfold PG.blocks; rw [hg]
   have hpl : ∀ m d', lk m (applyU [(n, .del)] st).pl = some d' → m ≠ n ∧ lk m st.pl = some d' := by
    intro m d' hm
    have hm : lk m (rmv n st.pl) = some d' := hm
    rw [lk_rmv] at hm
    split at hm
    ·cases hm
    ·rename_i e; exact ⟨e, hm⟩
   have hI : Inv X (applyU [(n, .del)] st) a w (fun x => B x ∨ x ∈ (G n).blocks) G := by
    refine h.move [(n, .del)] w (fun x => B x ∨ x ∈ (G n).blocks) G (Nat.le_refl _) ⟨rfl, rfl, rfl, fun _ => Nat.le_refl _⟩ (fun b hb => ⟨rfl, .inl hb⟩) ?_ (fun b hb hB => hB.imp id (fun hx => (hsep b hx).2 hb)) (fun _ _ _ => rfl) ?_ ?_ (fun _ _ => rfl) ?_ ?_ (fun _ _ _ _ _ _ _ => rfl)
     (by intro u hu _; rw [List.mem_singleton] at hu; rw [hu]; exact Nat.eq_of_beq_eq_true hk.1)
    ·intro x hx
     rcases hx with hx | hx
     ·exact h.bsz x hx
     ·rw [hbl] at hx
      rcases List.mem_cons.1 hx with rfl | hx
      ·exact hblk.lt
      ·exact Rel_lt _ _ _ _ hR x hx
    ·intro m d' hm
     obtain ⟨hne, hm⟩ := hpl m d' hm
     obtain ⟨h1, h2⟩ := h.pl m d' hm
     obtain ⟨h3, h4⟩ := h.sep m d' hm
     refine ⟨⟨Rel_same (fun _ _ => rfl) (fun _ h => .inl h) _ _ _ _ h1 (fun _ _ => rfl), h2⟩, h3, fun b hb => ⟨fun hB => ?_, (h4 b hb).2⟩⟩
     rcases hB with hB | hB
     ·exact (h4 b hb).1 hB
     ·exact h.apart m n d' d hm hd hne b hb hB
    ·intro m m' d1 d2 h1 h2 hne
     exact h.apart m m' d1 d2 (hpl _ _ h1).2 (hpl _ _ h2).2 hne
    ·intro u hu
     rw [List.mem_singleton] at hu
     subst hu
     exact .inl rfl
    ·intro k d' hk
     exact h.obj k d' (hpl _ _ hk).2
   refine Does.value hrun hI ?_
   show EVR _ _ _ _ _ (.val ⟨.alt t (.ptr (frz d.ty)) .nili, .inl (some (frzV d.ty d.val))⟩) _
   simp only [EVR]
   refine ⟨by simp [Ty.pure, hk.2], ⟨rfl, _, rfl, ?_, by rw [hvv]; rfl⟩, rfl⟩
   rw [hvv]
   refine ⟨rfl, b, off, (G n).cells, rfl, .inr (by rw [hbl]; simp), hrows, ?_⟩
   exact Rel_same (fun _ _ => rfl) (fun x hx => hx.imp id (fun hx => PG.mem_blocks hx)) _ _ _ _ (Rel_frz d.ty d.val _ _ hk.2 hR) (by simp)
  ·cases he
 ·obtain ⟨ez', hfz, he⟩ := bind_some he
  obtain ⟨⟨y, U⟩, hy, he⟩ := bind_some he
  split at he
  ·obtain rfl := Option.some.inj he
   obtain ⟨B', G', hI, hp, hvr, _, _, _⟩ := take_ok h (fix_ok hv hfz) hy hx
   refine Does.value hrun hI ?_
   show EVR _ _ _ _ _ (.val ⟨.alt t y.ty .nili, .inl x⟩) _
   simp only [EVR]
   exact ⟨by simp [Ty.pure, hp], ⟨rfl, _, rfl, hvr.1, hvr.2⟩, rfl⟩
  ·cases he

end
end
end Go.Pv

namespace Go.Pv
noncomputable section
universe u v

abbrev Obs := List (Dyn × PG)

def Obs.ob (o : Obs) : List Nat := o.flatMap fun x => x.2.blocks

structure Ent (w : World) (B : Nat → Prop) (os ow : Obs) : Prop where
 bsz : ∀ b, B b → b < w.heap.size
 pl : ∀ x ∈ os ++ ow, PlR w B x.2 x.1
 addr : ∀ x ∈ os, ∃ q, x.2.addr = some q
 own : ∀ x ∈ ow, x.2.addr = none
 sep : ∀ x ∈ os ++ ow, ∀ b ∈ x.2.blocks, ¬ B b
 nd : (Obs.ob (os ++ ow)).Nodup

def ARel (w : World) (B : Nat → Prop) : List AV → Obs → Obs → List Value → Prop
 | [], os, ow, vs => os = [] ∧ ow = [] ∧ vs = []
 | .val d :: l, os, ow, vs => ∃ v r, vs = v :: r ∧ d.ty.pure = true ∧ VR w B d.ty d.val v [] ∧ ARel w B l os ow r
 | .obj d :: l, os, ow, vs => ∃ v r g os', vs = v :: r ∧ os = (d, g) :: os' ∧ (∃ b o, g.addr = some (b, o) ∧ v = .pointer (some ⟨b, o, none⟩)) ∧ ARel w B l os' ow r
 | .ref d :: l, os, ow, vs => ∃ v r, vs = v :: r ∧ (d.ty.pure = true ∧ ∃ b o cells, v = .pointer (some ⟨b, o, none⟩) ∧ (B b ∨ cells = []) ∧ Go.Pv.Rows w b o cells ∧ Rel w B d.ty d.val cells []) ∧ ARel w B l os ow r
 | .fn f caps :: l, os, ow, vs => ∃ v r, vs = v :: r ∧ caps = [] ∧ v = .func (.func f) #[] #[] ∧ ARel w B l os ow r
 | .own d :: l, os, ow, vs => ∃ v r g ow', vs = v :: r ∧ ow = (d, g) :: ow' ∧ (g.cells = [v] ∧ d.ty.size = 1 ∧ d.ty.isAgg = false) ∧ ARel w B l os ow' r
 | .fno f d :: l, os, ow, vs => ∃ v r g os', vs = v :: r ∧ os = (d, g) :: os' ∧ (∃ b o, g.addr = some (b, o) ∧ v = .func (.func f) #[] #[.pointer (some ⟨b, o, none⟩)]) ∧ ARel w B l os' ow r

def RRel (w : World) (B : Nat → Prop) : RV → Value → PG → Prop
 | .val d, v, g => d.ty.pure = true ∧ VR w B d.ty d.val v [] ∧ g.blocks = []
 | .own d, v, g => g.addr = none ∧ g.cells = v.cells.toList ∧ PlR w B g d ∧ Value.agg? v = d.ty.isAgg
 | .ptr d, v, g => ∃ b o, g.addr = some (b, o) ∧ v = .pointer (some ⟨b, o, none⟩) ∧ PlR w B g d

def RsRel (w : World) (B : Nat → Prop) : List RV → List (Value × PG) → Prop
 | [], rs => rs = []
 | r :: l, rs => ∃ v g t, rs = (v, g) :: t ∧ RRel w B r v g ∧ RsRel w B l t

def OsRel (w' : World) (B' : Nat → Prop) : Obs → List Dyn → List PG → Prop
 | [], ds, gs => ds = [] ∧ gs = []
 | x :: os, ds, gs => ∃ d g ds' gs', ds = d :: ds' ∧ gs = g :: gs' ∧ PlR w' B' g d ∧ g.addr = x.2.addr ∧ d.ty.size = x.1.ty.size ∧ OsRel w' B' os ds' gs'

structure Lvs (dr : Bool) (w : World) (B : Nat → Prop) (os ow : Obs) (rvs : List RV) (ds : List Dyn) (v : Value) (w' : World) (B' : Nat → Prop) (gs : List PG) (rs : List (Value × PG)) : Prop where
 val : v = (match rs with | [x] => x.1 | l => .tuple (l.map (·.1)).toArray)
 obs : OsRel w' B' os ds gs
 res : RsRel w' B' rvs rs
 nd : (gs.flatMap PG.blocks ++ rs.flatMap fun x => x.2.blocks).Nodup
 sep : ∀ b ∈ gs.flatMap PG.blocks ++ rs.flatMap (fun x => x.2.blocks), ¬ B' b ∧ (b < w.heap.size → b ∈ Obs.ob (os ++ ow))
 size : w.heap.size ≤ w'.heap.size
 rest : w'.tape = w.tape ∧ w'.os = w.os ∧ w'.output = w.output ∧ (dr = true → w.drawn ≤ w'.drawn)
 keep : ∀ b, B b → Same w w' b ∧ B' b
 bsz : ∀ b, B' b → b < w'.heap.size
 bold : ∀ b, b < w.heap.size → B' b → B b ∨ b ∈ Obs.ob (os ++ ow)
 old : ∀ b, b < w.heap.size → b ∉ Obs.ob (os ++ ow) → Same w w' b
 out : ∀ x ∈ os, ∀ b o, x.2.addr = some (b, o) → ∀ i, i < o ∨ o + x.1.ty.size ≤ i → w'.cell? ⟨b, i, none⟩ = w.cell? ⟨b, i, none⟩

def Runs (P : Program) (f : Nat) (vs : Array Value) (w : World) (R : Value → World → Prop) : Prop :=
 ((callFunc f vs).run P w = .ok (.enter f vs) w ∧ Calls P f vs w fun
  | .returned v, w' => R v w'
  | _, _ => False) ∨ ∃ v, (callFunc f vs).run P w = .ok (.value v) w ∧ R v w

theorem Runs.mono {P : Program} {f : Nat} {vs : Array Value} {w : World} {R R' : Value → World → Prop} (h : Runs P f vs w R) (hR : ∀ v w', R v w' → R' v w') : Runs P f vs w R' := by
 rcases h with ⟨h1, h2⟩ | ⟨v, h1, h2⟩
 ·refine .inl ⟨h1, Calls.mono h2 fun e w' he => ?_⟩
  cases e with
  | panicked c => exact he.elim
  | outgrown => exact he.elim
  | returned v => exact hR v w' he
 ·exact .inr ⟨v, h1, hR v w h2⟩

theorem Runs.wp {P : Program} {f : Nat} {vs : Array Value} {w : World} {R : Value → World → Prop} (h : Runs P f vs w R) {o : Oper} {a : Act} (ho : (execOp a.eval o).run P w = (callFunc f vs).run P w) {next : Act → World → Prop} {Q : Exit → Act → World → Prop}
  (hn : ∀ v w', R v w' → next (a.put o.dst v) w') : o.wp P a w next Q := by
 unfold Oper.wp
 rw [ho]
 rcases h with ⟨h1, h2⟩ | ⟨v, h1, h2⟩
 ·rw [h1]
  show Calls P f vs w _
  refine Calls.mono h2 fun e w' he => ?_
  cases e with
  | panicked c => exact he.elim
  | outgrown => exact he.elim
  | returned v => exact hn v w' he
 ·rw [h1]
  exact hn v w h2

theorem run_callFunc_body {P : Program} {f : Nat} {fn : Func} (hf : P.funcs[f]? = some fn) (hname : (fn.name == "runtime.NumGoroutine") = false) (hb : fn.body.isNone = false) (vs : Array Value) (w : World) : (callFunc f vs).run P w = .ok (.enter f vs) w := by
 have h2' : fn.name ≠ "runtime.NumGoroutine" := by simpa using hname
 have h3' : fn.body ≠ none := fun e => by rw [e] at hb; cases hb
 simp [callFunc, hf, h2', h3']

def CallC (dr : Bool) (P : Program) (f : Nat) (sem : CSem) : Prop :=
 ∀ avs s, sem.run avs = some s → ∀ r, s.run = some r → ∀ (w : World) (B : Nat → Prop) (os ow : Obs) (vs : List Value), Ent w B os ow → ARel w B avs os ow vs →
  Runs P f vs.toArray w fun v w' => ∃ B' gs rs, Lvs dr w B os ow (resL (altR s.alts r).1.1 (altR s.alts r).2.1) (objsL (altR s.alts r).1.2 (altR s.alts r).2.2) v w' B' gs rs

def SortC (dr : Bool) (P : Program) (f : Nat) (z : Srt) : Prop :=
 ∀ xs ys, z.F xs = some ys → ∀ (w : World) (B : Nat → Prop) (v : Value) (F : List Nat), (∀ b, B b → b < w.heap.size) → (∀ b ∈ F, ¬ B b) → OwR w z.e.size (Rel w B z.e) xs v F →
  Runs P f #[v, .func (.func z.g) #[] #[]] w fun r w' => r = .tuple #[] ∧ OwR w' z.e.size (Rel w' B z.e) ys v F ∧ w.heap.size ≤ w'.heap.size ∧ (w'.tape = w.tape ∧ w'.os = w.os ∧ w'.output = w.output ∧ (dr = true → w.drawn ≤ w'.drawn)) ∧
   ∀ b, b < w.heap.size → b ∉ F → Same w w' b

def PayC (P : Program) (f : Nat) (at_ : TypeId) : Prop :=
 ∀ (w : World) (v : Value), Runs P f #[.iface at_ v] w fun r w' => r = v ∧ w' = w

structure ContractD (dr : Bool) (P : Program) (f : Nat) (sem : CSem) : Prop where
 call : CallC dr P f sem
 sorts : ∀ z, sem.sort = some z → SortC dr P f z
 pays : ∀ z, sem.pay = some z → PayC P f z

abbrev Contract (P : Program) (f : Nat) (sem : CSem) : Prop := ContractD false P f sem

section
variable {X : Cx} {st : St} {a : Act} {w : World} {B : Nat → Prop} {G : Nat → PG} {E : Operand → Option EV}

def AR (w : World) (B : Nat → Prop) (G : Nat → PG) (L : Look) : List AV → List (Nat × Path) → Obs → List Value → Prop
 | [], os, ow, vs => os = [] ∧ ow = [] ∧ vs = []
 | .own d :: l, os, ow, vs => ∃ v r g ow', vs = v :: r ∧ ow = (d, g) :: ow' ∧ (g.cells = [v] ∧ d.ty.size = 1 ∧ d.ty.isAgg = false) ∧ AR w B G L l os ow' r
 | .val d :: l, os, ow, vs => ∃ v r, vs = v :: r ∧ d.ty.pure = true ∧ VR w B d.ty d.val v [] ∧ AR w B G L l os ow r
 | .obj d :: l, os, ow, vs => ∃ v r n p os', vs = v :: r ∧ os = (n, p) :: os' ∧ (∃ dn o b off, L n = some dn ∧ getP ⟨dn.ty, some dn.val⟩ p = some ⟨d.ty, some d.val⟩ ∧ offP dn.ty p = some (o, d.ty) ∧ (G n).addr = some (b, off) ∧ v = .pointer (some ⟨b, off + o, none⟩)) ∧ AR w B G L l os' ow r
 | .ref d :: l, os, ow, vs => ∃ v r, vs = v :: r ∧ (d.ty.pure = true ∧ ∃ b o cells, v = .pointer (some ⟨b, o, none⟩) ∧ (B b ∨ cells = []) ∧ Go.Pv.Rows w b o cells ∧ Rel w B d.ty d.val cells []) ∧ AR w B G L l os ow r
 | .fn f caps :: l, os, ow, vs => ∃ v r, vs = v :: r ∧ caps = [] ∧ v = .func (.func f) #[] #[] ∧ AR w B G L l os ow r
 | .fno f d :: l, os, ow, vs => ∃ v r n p os', vs = v :: r ∧ os = (n, p) :: os' ∧ (∃ dn o b off, L n = some dn ∧ getP ⟨dn.ty, some dn.val⟩ p = some ⟨d.ty, some d.val⟩ ∧ offP dn.ty p = some (o, d.ty) ∧ (G n).addr = some (b, off) ∧ v = .func (.func f) #[] #[.pointer (some ⟨b, off + o, none⟩)]) ∧ AR w B G L l os' ow r

theorem fix_hits {P : Program} {t : TypeId} {e e' : EV} (h : e.fix P t = some e') (n : Nat) (b : Bool) (hh : e'.hits n b = true) : e.hits n b = true := by
 cases e with
 | cst v =>
  simp only [EV.fix] at h
  obtain ⟨d, _, rfl⟩ := Option.map_eq_some_iff.1 h
  cases hh
 | _ => obtain rfl := Option.some.inj h; exact hh

theorem arg0_congr {L L' : Look} {e : EV} (h : ∀ n, e.hits n true = true → L' n = L n) : e.arg0 L' = e.arg0 L := by
 have ht : e.take L' = e.take L := take_congr fun n hn => h n (hits_soft_hard e n hn)
 cases e with
 | loc n p => simp only [EV.arg0, listAt]; rw [h n (by simp [EV.hits])]
 | ref d => rfl
 | fn f l => cases l with
  | nil => rfl
  | cons x l =>
   cases x with
   | loc n p => cases l with
    | nil => simp only [EV.arg0, listAt]; rw [h n (by simp [EV.hits, EV.hitsL])]
    | cons y l => simp only [EV.arg0]; rw [ht]
   | _ => simp only [EV.arg0]; rw [ht]
 | _ => simp only [EV.arg0]; rw [ht]

theorem appBase_congr {L L' : Look} {e : EV} (h : ∀ n, e.hits n true = true → L' n = L n) : appBase L' e = appBase L e := by
 unfold appBase
 split
 ·rename_i n p; rw [h n (by simp [EV.hits])]
 ·rfl
 ·rfl
 ·rfl

theorem arg_congr {L L' : Look} {o : Bool} {e : EV} (h : ∀ n, e.hits n true = true → L' n = L n) : e.arg L' o = e.arg L o := by
 unfold EV.arg
 rw [arg0_congr h, appBase_congr h]

theorem argAll_congr {L L' : Look} {own : Nat → Bool} {fix : Nat → EV → Option EV} (hfix : ∀ i x y, fix i x = some y → ∀ n, y.hits n true = true → x.hits n true = true) : ∀ (l : List EV) (i : Nat), (∀ q ∈ l, ∀ n, q.hits n true = true → L' n = L n) → argAll L' own fix i l = argAll L own fix i l
 | [], _, _ => rfl
 | x :: r, i, h => by
  simp only [argAll]
  cases hf : fix i x with
  | none => rfl
  | some y =>
   simp only [Option.bind_some]
   rw [arg_congr (fun n hn => h x (by simp) n (hfix i x y hf n hn)), argAll_congr hfix r (i + 1) (fun q hq => h q (by simp [hq]))]

theorem AR.keep {B' : Nat → Prop} {G' : Nat → PG} {L L' : Look} (hB : ∀ b, B b → B' b) : ∀ (avs : List AV) (os : List (Nat × Path)) (ow : Obs) (vs : List Value), (∀ x ∈ os, L' x.1 = L x.1 ∧ (G' x.1).addr = (G x.1).addr) → AR w B G L avs os ow vs → AR w B' G' L' avs os ow vs
 | [], _, _, _, _, h => h
 | .own d :: l, os, _, _, ho, ⟨v, r, g, ow', h1, h2, h3, h4⟩ => ⟨v, r, g, ow', h1, h2, h3, AR.keep hB l os ow' r ho h4⟩
 | .val d :: l, os, ow, _, ho, ⟨v, r, h1, h2, h3, h4⟩ => ⟨v, r, h1, h2, h3.same (fun _ _ => rfl) hB (by simp), AR.keep hB l os ow r ho h4⟩
 | .obj d :: l, _, ow, _, ho, ⟨v, r, n, p, os', h1, h2, ⟨dn, o, b, off, k1, k2, k3, k4, k5⟩, h4⟩ => by
  subst h2
  refine ⟨v, r, n, p, os', h1, rfl, ⟨dn, o, b, off, ?_, k2, k3, ?_, k5⟩, AR.keep hB l os' ow r (fun x hx => ho x (by simp [hx])) h4⟩
  ·rw [(ho (n, p) (by simp)).1]; exact k1
  ·rw [(ho (n, p) (by simp)).2]; exact k4
 | .ref d :: l, os, ow, _, ho, ⟨v, r, h1, ⟨h2, b, o, cells, k1, k2, k3, k4⟩, h4⟩ => ⟨v, r, h1, ⟨h2, b, o, cells, k1, k2.imp (hB b) id, k3, Rel_same (fun _ _ => rfl) hB _ _ _ _ k4 (by simp)⟩, AR.keep hB l os ow r ho h4⟩
 | .fn f caps :: l, os, ow, _, ho, ⟨v, r, h1, h2, h3, h4⟩ => ⟨v, r, h1, h2, h3, AR.keep hB l os ow r ho h4⟩
 | .fno f d :: l, _, ow, _, ho, ⟨v, r, n, p, os', h1, h2, ⟨dn, o, b, off, k1, k2, k3, k4, k5⟩, h4⟩ => by
  subst h2
  refine ⟨v, r, n, p, os', h1, rfl, ⟨dn, o, b, off, ?_, k2, k3, ?_, k5⟩, AR.keep hB l os' ow r (fun x hx => ho x (by simp [hx])) h4⟩
  ·rw [(ho (n, p) (by simp)).1]; exact k1
  ·rw [(ho (n, p) (by simp)).2]; exact k4

structure OwOk (X : Cx) (st : St) (w : World) (B : Nat → Prop) (G : Nat → PG) (ow : Obs) : Prop where
 pl : ∀ x ∈ ow, PlR w B x.2 x.1 ∧ x.2.addr = none
 nd : (Obs.ob ow).Nodup
 sep : ∀ b ∈ Obs.ob ow, ¬ B b ∧ (b < X.w0.heap.size → b ∈ X.ob)
 apart : ∀ b ∈ Obs.ob ow, ∀ m d, lk m st.pl = some d → b ∉ (G m).blocks

theorem OwOk.nil {X : Cx} {st : St} {w : World} {B : Nat → Prop} {G : Nat → PG} : OwOk X st w B G [] := ⟨by simp, List.nodup_nil, by simp [Obs.ob], by simp [Obs.ob]⟩

theorem OwOk.join {X : Cx} {st1 st2 : St} {w : World} {B1 B2 : Nat → Prop} {G1 G2 : Nat → PG} {ow1 ow2 : Obs} (h1 : OwOk X st1 w B1 G1 ow1) (h2 : OwOk X st2 w B2 G2 ow2) (hB : ∀ b, B1 b → B2 b) (hf : From st1 G1 B1 st2 G2 B2)
  (hs : ∀ b ∈ Obs.ob ow2, ∃ n d, lk n st1.pl = some d ∧ b ∈ (G1 n).blocks) : OwOk X st2 w B2 G2 (ow1 ++ ow2) := by
 have hob : Obs.ob (ow1 ++ ow2) = Obs.ob ow1 ++ Obs.ob ow2 := by unfold Obs.ob; rw [List.flatMap_append]
 refine ⟨fun x hx => ?_, ?_, fun b hb => ?_, fun b hb m d hd hbm => ?_⟩
 ·rcases List.mem_append.1 hx with hx | hx
  ·obtain ⟨k1, k2⟩ := h1.pl x hx
   exact ⟨⟨Rel_same (fun _ _ => rfl) hB _ _ _ _ k1.1 (fun _ _ => rfl), k1.2⟩, k2⟩
  ·exact h2.pl x hx
 ·rw [hob]
  refine List.nodup_append.2 ⟨h1.nd, h2.nd, fun b hb b' hb' e => ?_⟩
  subst e
  obtain ⟨n, d, hd, hbn⟩ := hs b hb'
  exact h1.apart b hb n d hd hbn
 ·rw [hob] at hb
  rcases List.mem_append.1 hb with hb | hb
  ·refine ⟨fun hB2 => ?_, (h1.sep b hb).2⟩
   rcases hf.shut b hB2 with hB1 | ⟨n, d, hd, hbn⟩
   ·exact (h1.sep b hb).1 hB1
   ·exact h1.apart b hb n d hd hbn
  ·exact h2.sep b hb
 ·rw [hob] at hb
  rcases List.mem_append.1 hb with hb | hb
  ·obtain ⟨d0, k1, k2⟩ := hf.pl m d hd
   exact h1.apart b hb m d0 k1 (k2 b hbm)
  ·exact h2.apart b hb m d hd hbm

theorem argAll_ok {P : Program} {own : Nat → Bool} {fix : Nat → EV → Option EV} (hfix : ∀ i x y, fix i x = some y → (∃ t, x.fix P t = some y) ∨ y = x) : ∀ (l : List EV) (i : Nat) (vs : List Value) (st : St) (B : Nat → Prop) (G : Nat → PG) (avs : List AV) (os : List (Nat × Path)) (U : Upds),
    Inv X st a w B G → EVRL (tv a) w B G (look st) l vs → argAll (look st) own fix i l = some (avs, os, U) → (∀ x ∈ os, x.1 ∉ updNames U) →
    ∃ B' G' ow, Inv X (applyU U st) a w B' G' ∧ AR w B' G' (look (applyU U st)) avs os ow vs ∧ (OwOk X (applyU U st) w B' G' ow ∧ From st G B (applyU U st) G' B' ∧ ∀ b ∈ Obs.ob ow, ∃ n d, lk n st.pl = some d ∧ b ∈ (G n).blocks) ∧ (∀ b, B b → B' b) ∧ (∀ n d, n ∉ updNames U → lk n st.pl = some d → lk n (applyU U st).pl = some d ∧ G' n = G n) ∧
      ∀ e' v', EVR (tv a) w B G (look st) e' v' → EVR (tv a) w B' G' (look (applyU U st)) e' v'
  | [], i, vs, st, B, G, avs, os, U, h, hl, ha, _ => by
    simp only [argAll, Option.some.injEq, Prod.mk.injEq] at ha
    obtain ⟨rfl, rfl, rfl⟩ := ha
    exact ⟨B, G, [], h, ⟨rfl, rfl, hl⟩, ⟨OwOk.nil, From.refl st G B, by simp [Obs.ob]⟩, fun _ h => h, fun _ _ _ h => ⟨h, rfl⟩, fun _ _ h => h⟩
  | x :: r, i, vs, st, B, G, avs, os, U, h, hl, ha, hos => by
    simp only [EVRL] at hl
    obtain ⟨v, rv, rfl, hx, hl⟩ := hl
    simp only [argAll] at ha
    obtain ⟨y, hy, ha⟩ := bind_some ha
    have hyv : EVR (tv a) w B G (look st) y v := by
      rcases hfix i x y hy with ⟨t, ht⟩ | rfl
      · exact fix_ok hx ht
      · exact hx
    obtain ⟨z, hz, ha⟩ := bind_some ha
    split at ha
    · rename_i a1 os1 U1
      split at ha
      · cases ha
      rename_i hno
      obtain ⟨⟨avs2, os2, U2⟩, hr, hzz⟩ := Option.map_eq_some_iff.1 ha
      simp only [Prod.mk.injEq] at hzz
      obtain ⟨rfl, rfl, rfl⟩ := hzz
      have hcong : argAll (look (applyU U1 st)) own fix (i + 1) r = argAll (look st) own fix (i + 1) r := by
        refine argAll_congr ?_ r (i + 1) fun q hq n hn => ?_
        · intro j p q hpq n hn
          rcases hfix j p q hpq with ⟨t, ht⟩ | rfl
          · exact fix_hits ht n true hn
          · exact hn
        · refine applyU_pl_other U1 st n fun hm => hno ?_
          obtain ⟨u, hu, rfl⟩ := List.mem_map.1 hm
          rw [List.any_eq_true]
          exact ⟨u, hu, List.any_eq_true.2 ⟨q, hq, hn⟩⟩
      have hos2 : ∀ x ∈ os2, x.1 ∉ updNames U2 := fun x hx hm => hos x (by simp [hx]) (by simp only [updNames, List.map_append, List.mem_append]; exact .inr hm)

      have step : ∀ B1 G1 (ow1 : Obs), Inv X (applyU U1 st) a w B1 G1 → (∀ b, B b → B1 b) → (∀ n d, n ∉ updNames U1 → lk n st.pl = some d → lk n (applyU U1 st).pl = some d ∧ G1 n = G n) →
          (∀ e' v', EVR (tv a) w B G (look st) e' v' → EVR (tv a) w B1 G1 (look (applyU U1 st)) e' v') →
          (∀ B' G' ow2, (∀ b, B1 b → B' b) → (∀ x ∈ os1, look (applyU (U1 ++ U2) st) x.1 = look st x.1 ∧ (G' x.1).addr = (G x.1).addr) → AR w B' G' (look (applyU (U1 ++ U2) st)) avs2 os2 ow2 rv → AR w B' G' (look (applyU (U1 ++ U2) st)) (a1 :: avs2) (os1 ++ os2) (ow1 ++ ow2) (v :: rv)) →
          (∀ x ∈ os1, ∃ d, lk x.1 st.pl = some d) → OwOk X (applyU U1 st) w B1 G1 ow1 → From st G B (applyU U1 st) G1 B1 → (∀ b ∈ Obs.ob ow1, ∃ n d, lk n st.pl = some d ∧ b ∈ (G n).blocks) →
          ∃ B' G' ow, Inv X (applyU (U1 ++ U2) st) a w B' G' ∧ AR w B' G' (look (applyU (U1 ++ U2) st)) (a1 :: avs2) (os1 ++ os2) ow (v :: rv) ∧ (OwOk X (applyU (U1 ++ U2) st) w B' G' ow ∧ From st G B (applyU (U1 ++ U2) st) G' B' ∧ ∀ b ∈ Obs.ob ow, ∃ n d, lk n st.pl = some d ∧ b ∈ (G n).blocks) ∧ (∀ b, B b → B' b) ∧ (∀ n d, n ∉ updNames (U1 ++ U2) → lk n st.pl = some d → lk n (applyU (U1 ++ U2) st).pl = some d ∧ G' n = G n) ∧
            ∀ e' v', EVR (tv a) w B G (look st) e' v' → EVR (tv a) w B' G' (look (applyU (U1 ++ U2) st)) e' v' := by
        intro B1 G1 ow1 hI1 hB1 hk1 hE1 hAR hex how1 hfr1 hsr1
        have hl1 : EVRL (tv a) w B1 G1 (look (applyU U1 st)) r rv := by
          have key : ∀ (l : List EV) (vs : List Value), EVRL (tv a) w B G (look st) l vs → EVRL (tv a) w B1 G1 (look (applyU U1 st)) l vs := by
            intro l
            induction l with
            | nil => intro vs h; simpa only [EVRL] using h
            | cons e l ih =>
              intro vs h
              simp only [EVRL] at h ⊢
              obtain ⟨v, r, h1, h2, h3⟩ := h
              exact ⟨v, r, h1, hE1 e v h2, ih r h3⟩
          exact key r rv hl
        obtain ⟨B2, G2, ow2, hI2, hA2, ⟨how2, hfr2, hsr2⟩, hB2, hk2, hE2⟩ := argAll_ok hfix r (i + 1) rv (applyU U1 st) B1 G1 avs2 os2 U2 hI1 hl1 (by rw [hcong]; exact hr) hos2
        have hkeep : ∀ n d, n ∉ updNames (U1 ++ U2) → lk n st.pl = some d → lk n (applyU (U1 ++ U2) st).pl = some d ∧ G2 n = G n := by
          intro n d hn hd
          simp only [updNames, List.map_append, List.mem_append, not_or] at hn
          obtain ⟨h1, h2⟩ := hk1 n d hn.1 hd
          obtain ⟨h3, h4⟩ := hk2 n d hn.2 h1
          rw [applyU_append]
          exact ⟨h3, h4.trans h2⟩
        refine ⟨B2, G2, ow1 ++ ow2, by rw [applyU_append]; exact hI2, ?_, ⟨by rw [applyU_append]; exact how1.join how2 hB2 hfr2 hsr2, by rw [applyU_append]; exact hfr1.trans hfr2, fun b hb => ?_⟩, fun b hb => hB2 b (hB1 b hb), hkeep, fun e' v' h' => by rw [applyU_append]; exact hE2 e' v' (hE1 e' v' h')⟩
        refine hAR B2 G2 ow2 hB2 (fun x hx => ?_) (by rw [applyU_append]; exact hA2)
        obtain ⟨d, hd⟩ := hex x hx
        obtain ⟨h1, h2⟩ := hkeep x.1 d (hos x (by simp [hx])) hd
        exact ⟨h1.trans hd.symm, by rw [h2]⟩
        unfold Obs.ob at hb
        rw [List.flatMap_append] at hb
        rcases List.mem_append.1 hb with hb | hb
        · exact hsr1 b hb
        · obtain ⟨n, d, hd, hbn⟩ := hsr2 b hb
          obtain ⟨d0, k1, k2⟩ := hfr1.pl n d hd
          exact ⟨n, d0, k1, k2 b hbn⟩
      have viaTake : ∀ (t : Ty) (x : T t), y.take (look st) = some (⟨t, some x⟩, U1) → a1 = .val ⟨t, x⟩ → os1 = [] →
          ∃ B' G' ow, Inv X (applyU (U1 ++ U2) st) a w B' G' ∧ AR w B' G' (look (applyU (U1 ++ U2) st)) (a1 :: avs2) (os1 ++ os2) ow (v :: rv) ∧ (OwOk X (applyU (U1 ++ U2) st) w B' G' ow ∧ From st G B (applyU (U1 ++ U2) st) G' B' ∧ ∀ b ∈ Obs.ob ow, ∃ n d, lk n st.pl = some d ∧ b ∈ (G n).blocks) ∧ (∀ b, B b → B' b) ∧ (∀ n d, n ∉ updNames (U1 ++ U2) → lk n st.pl = some d → lk n (applyU (U1 ++ U2) st).pl = some d ∧ G' n = G n) ∧
            ∀ e' v', EVR (tv a) w B G (look st) e' v' → EVR (tv a) w B' G' (look (applyU (U1 ++ U2) st)) e' v' := by
        intro t x ht ha1 ho1
        subst ha1; subst ho1
        obtain ⟨B1, G1, hI1, hp, hv, hB1, hk1, hE1, hfr⟩ := take_ok' h hyv ht rfl
        refine step B1 G1 [] hI1 hB1 hk1 hE1 (fun B' G' ow2 hB' _ hA => ⟨v, rv, rfl, hp, hv.same (fun _ _ => rfl) hB' (by simp), hA⟩) (by simp) OwOk.nil hfr (by simp [Obs.ob])
      have other : ((y.take (look st)).bind fun r => match r.1.val with
          | some v => some (some (AV.val ⟨r.1.ty, v⟩), [], r.2)
          | none => none) = some (some a1, os1, U1) → ∃ B' G' ow, Inv X (applyU (U1 ++ U2) st) a w B' G' ∧ AR w B' G' (look (applyU (U1 ++ U2) st)) (a1 :: avs2) (os1 ++ os2) ow (v :: rv) ∧ (OwOk X (applyU (U1 ++ U2) st) w B' G' ow ∧ From st G B (applyU (U1 ++ U2) st) G' B' ∧ ∀ b ∈ Obs.ob ow, ∃ n d, lk n st.pl = some d ∧ b ∈ (G n).blocks) ∧ (∀ b, B b → B' b) ∧ (∀ n d, n ∉ updNames (U1 ++ U2) → lk n st.pl = some d → lk n (applyU (U1 ++ U2) st).pl = some d ∧ G' n = G n) ∧
            ∀ e' v', EVR (tv a) w B G (look st) e' v' → EVR (tv a) w B' G' (look (applyU (U1 ++ U2) st)) e' v' := by
        intro hz
        obtain ⟨⟨⟨t, ov⟩, U'⟩, ht, hz⟩ := bind_some hz
        cases ov with
        | none => cases hz
        | some x =>
          simp only [Option.some.injEq, Prod.mk.injEq] at hz
          obtain ⟨h1, h2, h3⟩ := hz
          subst h3
          exact viaTake t x ht h1.symm h2.symm
      have h0 : y.arg0 (look st) = some (some a1, os1, U1) → ∃ B' G' ow, Inv X (applyU (U1 ++ U2) st) a w B' G' ∧ AR w B' G' (look (applyU (U1 ++ U2) st)) (a1 :: avs2) (os1 ++ os2) ow (v :: rv) ∧ (OwOk X (applyU (U1 ++ U2) st) w B' G' ow ∧ From st G B (applyU (U1 ++ U2) st) G' B' ∧ ∀ b ∈ Obs.ob ow, ∃ n d, lk n st.pl = some d ∧ b ∈ (G n).blocks) ∧ (∀ b, B b → B' b) ∧ (∀ n d, n ∉ updNames (U1 ++ U2) → lk n st.pl = some d → lk n (applyU (U1 ++ U2) st).pl = some d ∧ G' n = G n) ∧
            ∀ e' v', EVR (tv a) w B G (look st) e' v' → EVR (tv a) w B' G' (look (applyU (U1 ++ U2) st)) e' v' := by
       intro hz
       cases y with
       | loc n p =>
         simp only [EV.arg0] at hz
         obtain ⟨q, hq, hz⟩ := bind_some hz
         split at hz
         · rename_i qv hqv
           simp only [Option.some.injEq, Prod.mk.injEq] at hz
           obtain ⟨rfl, rfl, rfl⟩ := hz
           obtain ⟨dn, hdn, hq⟩ := bind_some hq
           have hdn : lk n st.pl = some dn := hdn
           refine step B G [] h (fun _ h => h) (fun _ _ _ h => ⟨h, rfl⟩) (fun _ _ h => h) (fun B' G' ow2 hB' hos' hA => ?_) (by intro x hx; rw [List.mem_singleton] at hx; subst hx; exact ⟨dn, hdn⟩) OwOk.nil (From.refl st G B) (by simp [Obs.ob])
           obtain ⟨hl1, hg1⟩ := hos' (n, p) (by simp)
           simp only [EVR] at hyv
           obtain ⟨d1, o, u, b, off, hd1, ho, hg, hv⟩ := hyv
           have hd1 : lk n st.pl = some d1 := hd1
           rw [hdn] at hd1
           obtain rfl := Option.some.inj hd1
           obtain ⟨oo, hoo⟩ := getP_off p _ _ hq
           rw [ho] at hoo
           simp only [Option.some.injEq, Prod.mk.injEq] at hoo
           obtain ⟨rfl, rfl⟩ := hoo
           refine ⟨v, rv, n, p, os2, rfl, rfl, ⟨dn, o, b, off, hl1.trans hdn, ?_, ho, hg1.trans hg, hv⟩, hA⟩
           rw [hq, ← hqv]
         · cases hz
       | ref d =>
         simp only [EV.arg0, Option.some.injEq, Prod.mk.injEq] at hz
         obtain ⟨rfl, rfl, rfl⟩ := hz
         simp only [EVR] at hyv
         refine step B G [] h (fun _ h => h) (fun _ _ _ h => ⟨h, rfl⟩) (fun _ _ h => h) (fun B' G' ow2 hB' hos' hA => ?_) (by simp) OwOk.nil (From.refl st G B) (by simp [Obs.ob])
         obtain ⟨h2, b, o, cells, k1, k2, k3, k4⟩ := hyv
         exact ⟨v, rv, rfl, ⟨h2, b, o, cells, k1, k2.imp (hB' b) id, k3, Rel_same (fun _ _ => rfl) hB' _ _ _ _ k4 (by simp)⟩, hA⟩
       | fn f caps =>
         cases caps with
         | nil =>
           simp only [EV.arg0, Option.some.injEq, Prod.mk.injEq] at hz
           obtain ⟨rfl, rfl, rfl⟩ := hz
           simp only [EVR, EVRL] at hyv
           obtain ⟨vs', hv, hvs⟩ := hyv
           refine step B G [] h (fun _ h => h) (fun _ _ _ h => ⟨h, rfl⟩) (fun _ _ h => h) (fun B' G' ow2 hB' hos' hA => ⟨v, rv, rfl, rfl, ?_, hA⟩) (by simp) OwOk.nil (From.refl st G B) (by simp [Obs.ob])
           rw [hv]
           have : vs' = #[] := by simpa using hvs
           rw [this]
         | cons c caps =>
           cases c with
           | loc n p =>
             cases caps with
             | nil =>
               simp only [EV.arg0] at hz
               obtain ⟨q, hq, hz⟩ := bind_some hz
               split at hz
               · rename_i qv hqv
                 simp only [Option.some.injEq, Prod.mk.injEq] at hz
                 obtain ⟨rfl, rfl, rfl⟩ := hz
                 obtain ⟨dn, hdn, hq⟩ := bind_some hq
                 have hdn : lk n st.pl = some dn := hdn
                 refine step B G [] h (fun _ h => h) (fun _ _ _ h => ⟨h, rfl⟩) (fun _ _ h => h) (fun B' G' ow2 hB' hos' hA => ?_) (by intro x hx; rw [List.mem_singleton] at hx; subst hx; exact ⟨dn, hdn⟩) OwOk.nil (From.refl st G B) (by simp [Obs.ob])
                 obtain ⟨hl1, hg1⟩ := hos' (n, p) (by simp)
                 simp only [EVR, EVRL] at hyv
                 obtain ⟨vs', hv0, u0, r0, hvs0, ⟨d1, o, u, b, off, hd1, ho, hg, hv⟩, hr0⟩ := hyv
                 have hvs1 : vs' = #[.pointer (some ⟨b, off + o, none⟩)] := by
                   apply Array.ext'
                   rw [hvs0, hr0, hv]
                 rw [hvs1] at hv0
                 have hd1 : lk n st.pl = some d1 := hd1
                 rw [hdn] at hd1
                 obtain rfl := Option.some.inj hd1
                 obtain ⟨oo, hoo⟩ := getP_off p _ _ hq
                 rw [ho] at hoo
                 simp only [Option.some.injEq, Prod.mk.injEq] at hoo
                 obtain ⟨rfl, rfl⟩ := hoo
                 refine ⟨v, rv, n, p, os2, rfl, rfl, ⟨dn, o, b, off, hl1.trans hdn, ?_, ho, hg1.trans hg, hv0⟩, hA⟩
                 rw [hq, ← hqv]
               · cases hz
             | cons y caps => exact other hz
           | _ => exact other hz
       | _ => exact other hz
      unfold EV.arg at hz
      cases hown : own i with
      | false => rw [hown] at hz; exact h0 hz
      | true =>
        rw [hown] at hz
        simp only [cond_true] at hz
        split at hz
        · rename_i b hb
          simp only [Option.some.injEq, Prod.mk.injEq] at hz
          obtain ⟨rfl, rfl, rfl⟩ := hz
          obtain ⟨G1, F, k1, k2, k3, k4, k5, k6⟩ := appBase_ok' h hyv hb
          have hR : Rel w B (mkApp b.app b.e b.xs).ty (mkApp b.app b.e b.xs).val [v] F := by
            rcases k5 with k5 | ⟨e1, e2, k5⟩
            · exact mkApp_rel k5
            · rw [e1, e2]
              exact ⟨v, rfl, .inr ⟨rfl, k5⟩⟩
          obtain ⟨s1, s2⟩ := mkApp_ty b.app b.e b.xs
          have hob : Obs.ob [(mkApp b.app b.e b.xs, (⟨none, [v], F⟩ : PG))] = F := by simp [Obs.ob, PG.blocks]
          refine step B G1 [(mkApp b.app b.e b.xs, ⟨none, [v], F⟩)] k1 (fun _ h => h) k6.keep k6.ev (fun B' G' ow2 hB' hos' hA => ⟨v, rv, _, ow2, rfl, rfl, ⟨rfl, s1, s2⟩, hA⟩) (by simp) ⟨fun x hx => ?_, by rw [hob]; exact k2, by rw [hob]; exact k3, by rw [hob]; exact k4⟩ k6.from_ (by rw [hob]; exact k6.src)
          obtain rfl : x = _ := by simpa using hx
          exact ⟨⟨hR, trivial⟩, rfl⟩
        · exact h0 hz
    · cases ha

end
end
end Go.Pv

namespace Go.Pv
noncomputable section
universe u v

section
variable {X : Cx} {st : St} {a : Act} {w : World} {B : Nat → Prop} {G : Nat → PG} {E : Operand → Option EV}

def GoodO (w : World) (B : Nat → Prop) (G : Nat → PG) (L : Look) (np : Nat × Path) (x : Dyn × PG) : Prop :=
 ∃ dn o b off c pre post F1 F3, L np.1 = some dn ∧ getP ⟨dn.ty, some dn.val⟩ np.2 = some ⟨x.1.ty, some x.1.val⟩ ∧ (G np.1).addr = some (b, off) ∧ Blk w b c ∧ (G np.1).cells = pre ++ x.2.cells ++ post ∧ pre.length = o ∧
  (G np.1).F = F1 ++ x.2.F ++ F3 ∧ x.2.addr = some (b, off + o) ∧ Rel w B x.1.ty x.1.val x.2.cells x.2.F ∧
  ∀ (w' : World) (B' : Nat → Prop), (∀ b, B b → Same w w' b) → (∀ b, B b → B' b) → (∀ b ∈ F1 ++ F3, Same w w' b) →
   ∀ (u : Ty) (z : T u) mid' F2' (r : ODyn) (k : T r.ty), Rel w' B' u z mid' F2' → setP ⟨dn.ty, some dn.val⟩ np.2 ⟨u, some z⟩ = some r → r.val = some k → Rel w' B' r.ty k (pre ++ mid' ++ post) (F1 ++ F2' ++ F3)

def GoodL (w : World) (B : Nat → Prop) (G : Nat → PG) (L : Look) : List (Nat × Path) → Obs → Prop
 | [], obs => obs = []
 | np :: os, obs => ∃ x obs', obs = x :: obs' ∧ GoodO w B G L np x ∧ GoodL w B G L os obs'

theorem AR.good (h : Inv X st a w B G) : ∀ (avs : List AV) (os : List (Nat × Path)) (ow : Obs) (vs : List Value), AR w B G (look st) avs os ow vs → ∃ obs, GoodL w B G (look st) os obs ∧ ARel w B avs obs ow vs
 | [], os, ow, vs, ⟨h1, h2, h3⟩ => ⟨[], by subst h1; rfl, rfl, h2, h3⟩
 | .own d :: l, os, _, _, ⟨v, r, g, ow', h1, h2, h3, h4⟩ => by
  obtain ⟨obs, k1, k2⟩ := AR.good h l os ow' r h4
  exact ⟨obs, k1, v, r, g, ow', h1, h2, h3, k2⟩
 | .val d :: l, os, ow, _, ⟨v, r, h1, h2, h3, h4⟩ => by
  obtain ⟨obs, k1, k2⟩ := AR.good h l os ow r h4
  exact ⟨obs, k1, v, r, h1, h2, h3, k2⟩
 | .ref d :: l, os, ow, _, ⟨v, r, h1, h2, h4⟩ => by
  obtain ⟨obs, k1, k2⟩ := AR.good h l os ow r h4
  exact ⟨obs, k1, v, r, h1, h2, k2⟩
 | .fn f caps :: l, os, ow, _, ⟨v, r, h1, h2, h3, h4⟩ => by
  obtain ⟨obs, k1, k2⟩ := AR.good h l os ow r h4
  exact ⟨obs, k1, v, r, h1, h2, h3, k2⟩
 | .obj d :: l, _, ow, _, ⟨v, r, n, p, os', h1, h2, ⟨dn, o, b, off, hd, hget, ho, hg, hv⟩, h4⟩ => by
  subst h2
  obtain ⟨obs, k1, k2⟩ := AR.good h l os' ow r h4
  obtain ⟨hR, hA⟩ := h.pl n dn hd
  rw [hg] at hA
  obtain ⟨hrows, c, hblk⟩ := hA
  obtain ⟨o', pre, mid, post, F1, F2, F3, ho', hc, hl, hF, hm, hrep⟩ := getP_rel p dn.ty dn.val _ d.val _ _ hget rfl hR
  rw [ho] at ho'
  simp only [Option.some.injEq, Prod.mk.injEq, and_true] at ho'
  subst ho'
  refine ⟨(d, ⟨some (b, off + o), mid, F2⟩) :: obs, ⟨_, _, rfl, ⟨dn, o, b, off, c, pre, post, F1, F3, hd, hget, hg, hblk, hc, hl, hF, rfl, hm, hrep⟩, k1⟩, v, r, _, obs, h1, rfl, ⟨b, off + o, rfl, hv⟩, k2⟩
 | .fno f d :: l, _, ow, _, ⟨v, r, n, p, os', h1, h2, ⟨dn, o, b, off, hd, hget, ho, hg, hv⟩, h4⟩ => by
  subst h2
  obtain ⟨obs, k1, k2⟩ := AR.good h l os' ow r h4
  obtain ⟨hR, hA⟩ := h.pl n dn hd
  rw [hg] at hA
  obtain ⟨hrows, c, hblk⟩ := hA
  obtain ⟨o', pre, mid, post, F1, F2, F3, ho', hc, hl, hF, hm, hrep⟩ := getP_rel p dn.ty dn.val _ d.val _ _ hget rfl hR
  rw [ho] at ho'
  simp only [Option.some.injEq, Prod.mk.injEq, and_true] at ho'
  subst ho'
  refine ⟨(d, ⟨some (b, off + o), mid, F2⟩) :: obs, ⟨_, _, rfl, ⟨dn, o, b, off, c, pre, post, F1, F3, hd, hget, hg, hblk, hc, hl, hF, rfl, hm, hrep⟩, k1⟩, v, r, _, obs, h1, rfl, ⟨b, off + o, rfl, hv⟩, k2⟩

theorem GoodO.blocks {np : Nat × Path} {x : Dyn × PG} (hg : GoodO w B G (look st) np x) : ∀ b ∈ x.2.blocks, b ∈ (G np.1).blocks := by
 obtain ⟨dn, o, b0, off, c, pre, post, F1, F3, hd, hget, hga, hblk, hc, hl, hF, hxa, hm, hrep⟩ := hg
 intro b hb
 unfold PG.blocks at hb ⊢
 rw [hxa] at hb
 rw [hga]
 rcases List.mem_cons.1 hb with rfl | hb
 ·simp
 ·simp [hF, hb]

theorem GoodO.nodup (h : Inv X st a w B G) {np : Nat × Path} {x : Dyn × PG} (hg : GoodO w B G (look st) np x) : x.2.blocks.Nodup := by
 obtain ⟨dn, o, b0, off, c, pre, post, F1, F3, hd, hget, hga, hblk, hc, hl, hF, hxa, hm, hrep⟩ := hg
 have hnd := (h.sep np.1 dn hd).1
 unfold PG.blocks at hnd ⊢
 rw [hga, hF] at hnd
 rw [hxa]
 refine hnd.sublist (List.Sublist.cons_cons _ ?_)
 rw [List.append_assoc]
 exact (List.sublist_append_left x.2.F F3).trans (List.sublist_append_right F1 _)

theorem GoodL.mem : ∀ {os : List (Nat × Path)} {obs : Obs}, GoodL w B G (look st) os obs → ∀ x ∈ obs, ∃ np ∈ os, GoodO w B G (look st) np x
 | [], _, h, x, hx => by have h : _ = [] := h; subst h; cases hx
 | np :: os, _, ⟨y, obs', h1, h2, h3⟩, x, hx => by
  subst h1
  rcases List.mem_cons.1 hx with rfl | hx
  ·exact ⟨np, by simp, h2⟩
  ·obtain ⟨np', k1, k2⟩ := GoodL.mem h3 x hx
   exact ⟨np', by simp [k1], k2⟩

theorem nodupN_ok : ∀ (l : List Nat), nodupN l = true → l.Nodup
 | [], _ => List.nodup_nil
 | n :: r, h => by
  simp only [nodupN, Bool.and_eq_true, Bool.not_eq_true'] at h
  refine List.nodup_cons.2 ⟨fun hm => ?_, nodupN_ok r h.2⟩
  have := List.any_eq_false.1 h.1 n hm
  simp at this

theorem Obs.mem_ob {os : Obs} {b : Nat} : b ∈ os.ob ↔ ∃ x ∈ os, b ∈ x.2.blocks := by
 unfold Obs.ob; exact List.mem_flatMap

theorem GoodL.nd (h : Inv X st a w B G) : ∀ {os : List (Nat × Path)} {obs : Obs}, GoodL w B G (look st) os obs → (os.map (·.1)).Nodup → obs.ob.Nodup
 | [], _, hg, _ => by have hg : _ = [] := hg; subst hg; exact List.nodup_nil
 | np :: os, _, ⟨x, obs', h1, h2, h3⟩, hn => by
  subst h1
  simp only [List.map_cons, List.nodup_cons] at hn
  show (x.2.blocks ++ Obs.ob obs').Nodup
  refine List.nodup_append.2 ⟨h2.nodup h, GoodL.nd h h3 hn.2, fun b hb b' hb' e => ?_⟩
  subst e
  obtain ⟨y, hy, hby⟩ := Obs.mem_ob.1 hb'
  obtain ⟨np', hnp', hgy⟩ := GoodL.mem h3 y hy
  have e1 : ∃ d, lk np.1 st.pl = some d := by obtain ⟨dn, _, _, _, _, _, _, _, _, hd, _⟩ := h2; exact ⟨dn, hd⟩
  have e2 : ∃ d, lk np'.1 st.pl = some d := by obtain ⟨dn, _, _, _, _, _, _, _, _, hd, _⟩ := hgy; exact ⟨dn, hd⟩
  obtain ⟨d1, e1⟩ := e1
  obtain ⟨d2, e2⟩ := e2
  refine h.apart np.1 np'.1 d1 d2 e1 e2 (fun e => hn.1 ?_) b (h2.blocks b hb) (hgy.blocks b hby)
  rw [e]; exact List.mem_map.2 ⟨np', hnp', rfl⟩

theorem GoodL.ent (h : Inv X st a w B G) {os : List (Nat × Path)} {obs : Obs} (hg : GoodL w B G (look st) os obs) (hn : (os.map (·.1)).Nodup) (hz : ∀ x ∈ obs, x.1.ty.size ≠ 0) {ow : Obs} (how : OwOk X st w B G ow) : Ent w B obs ow := by
 have hin : ∀ b ∈ Obs.ob obs, ∃ n d, lk n st.pl = some d ∧ b ∈ (G n).blocks := by
  intro b hb
  obtain ⟨x, hx, hbx⟩ := Obs.mem_ob.1 hb
  obtain ⟨np, _, hgo⟩ := hg.mem x hx
  have hb2 := hgo.blocks b hbx
  obtain ⟨dn, _, _, _, _, _, _, _, _, hd, _⟩ := hgo
  exact ⟨np.1, dn, hd, hb2⟩
 refine ⟨h.bsz, fun x hx => (List.mem_append.1 hx).elim (fun hx => ?_) (fun hx => (how.pl x hx).1), fun x hx => ?_, fun x hx => (how.pl x hx).2, fun x hx b hb => (List.mem_append.1 hx).elim (fun hx => ?_) (fun hx => (how.sep b (Obs.mem_ob.2 ⟨x, hx, hb⟩)).1), ?_⟩
 ·obtain ⟨np, _, hgo⟩ := hg.mem x hx
  obtain ⟨dn, o, b0, off, c, pre, post, F1, F3, hd, hget, hga, hblk, hc, hl, hF, hxa, hm, hrep⟩ := hgo
  obtain ⟨hR, hA⟩ := h.pl np.1 dn hd
  rw [hga] at hA
  refine ⟨hm, ?_⟩
  rw [hxa]
  refine ⟨fun i v hi => ?_, c, hblk⟩
  have := hA.1 (o + i) v (by
   rw [hc, List.append_assoc, List.getElem?_append_right (by omega), hl, Nat.add_sub_cancel_left, List.getElem?_append_left (List.getElem?_eq_some_iff.1 hi).1]
   exact hi)
  simpa [Nat.add_assoc] using this
 ·obtain ⟨np, _, hgo⟩ := hg.mem x hx
  obtain ⟨dn, o, b0, off, c, pre, post, F1, F3, hd, hget, hga, hblk, hc, hl, hF, hxa, hm, hrep⟩ := hgo
  exact ⟨_, hxa⟩
 ·obtain ⟨np, _, hgo⟩ := hg.mem x hx
  have hb2 := hgo.blocks b hb
  obtain ⟨dn, o, b0, off, c, pre, post, F1, F3, hd, _⟩ := hgo
  exact ((h.sep np.1 dn hd).2 b hb2).1
 ·unfold Obs.ob
  rw [List.flatMap_append]
  refine List.nodup_append.2 ⟨GoodL.nd h hg hn, how.nd, fun b hb b' hb' e => ?_⟩
  subst e
  obtain ⟨n, d, hd, hbn⟩ := hin b hb
  exact how.apart b hb' n d hd hbn

theorem setF_has : ∀ (t : Ty) (x : T t) (i : Nat) (y : ODyn) (u : Ty) (z : T u), getF t (some x) i = some y → ∃ r k, setF t (some x) i ⟨u, some z⟩ = some ⟨r, some k⟩
 | .pair a b, x, 0, y, u, z, _ => ⟨.pair u b, (z, x.2), rfl⟩
 | .pair a b, x, i + 1, y, u, z, h => by
  obtain ⟨r, k, hr⟩ := setF_has b x.2 i y u z (by simpa only [getF, Option.map_some] using h)
  exact ⟨.pair a r, (x.1, k), by simp only [setF, Option.map_some]; rw [hr]; rfl⟩
 | .int _, _, _, _, _, _, h => by simp [getF] at h
 | .bool, _, _, _, _, _, h => by simp [getF] at h
 | .str, _, _, _, _, _, h => by simp [getF] at h
 | .unit, _, _, _, _, _, h => by simp [getF] at h
 | .agg _, _, _, _, _, _, h => by simp [getF] at h
 | .arr _ _, _, _, _, _, _, h => by simp [getF] at h
 | .slice _, _, _, _, _, _, h => by simp [getF] at h
 | .own _, _, _, _, _, _, h => by simp [getF] at h
 | .app _, _, _, _, _, _, h => by simp [getF] at h
 | .junk, _, _, _, _, _, h => by simp [getF] at h
 | .ptr _, _, _, _, _, _, h => by simp [getF] at h
 | .box _, _, _, _, _, _, h => by simp [getF] at h
 | .nils _, _, _, _, _, _, h => by simp [getF] at h
 | .nilp, _, _, _, _, _, h => by simp [getF] at h
 | .nili, _, _, _, _, _, h => by simp [getF] at h
 | .alt _ _ _, _, _, _, _, _, h => by simp [getF] at h

theorem setP_has : ∀ (p : Path) (t : Ty) (x : T t) (y : ODyn) (u : Ty) (z : T u), fldPath p = true → getP ⟨t, some x⟩ p = some y → ∃ r k, setP ⟨t, some x⟩ p ⟨u, some z⟩ = some ⟨r, some k⟩
 | [], t, x, y, u, z, _, _ => ⟨u, z, rfl⟩
 | .idx _ :: p, _, _, _, _, _, h, _ => by cases h
 | .fld i :: p, t, x, y, u, z, hp, hg => by
  simp only [getP] at hg
  obtain ⟨y1, hy1, hg⟩ := bind_some hg
  cases t with
  | agg t =>
   have hy1' : getF t (some x) i = some y1 := by cases t <;> exact hy1
   obtain ⟨v1, hv1⟩ := getF_has t x i y1 hy1'
   obtain ⟨t1, ov⟩ := y1
   cases ov with
   | none => cases hv1
   | some v2 =>
   obtain ⟨r1, k1, hr1⟩ := setP_has p t1 v2 y u z hp hg
   obtain ⟨r2, k2, hr2⟩ := setF_has t x i _ r1 k1 hy1'
   refine ⟨.agg r2, k2, ?_⟩
   simp only [setP, hy1, Option.bind_some, hr1]
   have : setS ⟨.agg t, some x⟩ (.fld i) ⟨r1, some k1⟩ = (setF t (some x) i ⟨r1, some k1⟩).map fun z => ⟨.agg z.ty, z.val⟩ := by cases t <;> rfl
   rw [this, hr2]; rfl
  | _ => simp [getS] at hy1

def Back (w w' : World) (B' : Nat → Prop) (G : Nat → PG) (L : Look) : List (Nat × Path) → Obs → List PG → Upds → List (Nat × PG) → Prop
 | [], obs, gs, W, gas => obs = [] ∧ gs = [] ∧ W = [] ∧ gas = []
 | np :: os, obs, gs, W, gas => ∃ x obs' g gs' d W' ga gas' dn o b off pre post F1 F3 mid' F', obs = x :: obs' ∧ gs = g :: gs' ∧ W = (np.1, .set d) :: W' ∧ gas = (np.1, ga) :: gas' ∧
   L np.1 = some dn ∧ sk d.ty = sk dn.ty ∧ (G np.1).addr = some (b, off) ∧ ga = ⟨some (b, off), pre ++ mid' ++ post, F1 ++ F' ++ F3⟩ ∧ x.2.addr = some (b, off + o) ∧ g.addr = some (b, off + o) ∧ pre.length = o ∧ mid'.length = x.1.ty.size ∧
   (G np.1).cells.length = dn.ty.size ∧ o + x.1.ty.size ≤ dn.ty.size ∧
   (G np.1).F = F1 ++ x.2.F ++ F3 ∧ g.F = F' ∧ PlR w' B' ga d ∧ Back w w' B' G L os obs' gs' W' gas'

theorem back_ok {w' : World} {B' : Nat → Prop} (h : Inv X st a w B G) (hB : ∀ b, B b → Same w w' b) (hB' : ∀ b, B b → B' b) {ob : List Nat} (hold : ∀ b, b < w.heap.size → b ∉ ob → Same w w' b) : ∀ (os : List (Nat × Path)) (obs : Obs) (ts : List Ty) (ds : ObjT ts) (gs : List PG), GoodL w B G (look st) os obs → OsRel w' B' obs (objsL ts ds) gs → objFit (look st) os ts = true →
  (∀ x ∈ obs, ∀ b o, x.2.addr = some (b, o) → ∀ i, i < o ∨ o + x.1.ty.size ≤ i → w'.cell? ⟨b, i, none⟩ = w.cell? ⟨b, i, none⟩) →
  (∀ np ∈ os, ∀ x ∈ obs, GoodO w B G (look st) np x → ∀ F1 F3, (G np.1).F = F1 ++ x.2.F ++ F3 → ∀ b ∈ F1 ++ F3, b < w.heap.size ∧ b ∉ ob) → ∃ W gas, backOs (look st) os (objsL ts ds) = some W ∧ Back w w' B' G (look st) os obs gs W gas
 | [], obs, ts, ds, gs, hg, ho, hf, _, _ => by
  have hg : obs = [] := hg
  subst hg
  obtain ⟨hd, hgs⟩ := ho
  exact ⟨[], [], by rw [hd]; rfl, rfl, hgs, rfl, rfl⟩
 | np :: os, obs, ts, ds, gs, hg, ho, hf, hout, hno => by
  obtain ⟨x, obs', rfl, hgo, hg'⟩ := hg
  obtain ⟨d, g, ds', gs', hds, rfl, hpl, hga, hsz, ho'⟩ := ho
  cases ts with
  | nil => cases hds
  | cons t ts =>
   obtain ⟨dv, dr⟩ := ds
   simp only [objsL, List.cons.injEq] at hds
   obtain ⟨rfl, hds⟩ := hds
   simp only [objFit, Bool.and_eq_true] at hf
   obtain ⟨W, gas, hW, hBk⟩ := back_ok h hB hB' hold os obs' ts dr gs' hg' (by rw [hds]; exact ho') hf.2 (fun x hx => hout x (by simp [hx])) (fun np hnp x hx => hno np (by simp [hnp]) x (by simp [hx]))
   have hgo2 := hgo
   obtain ⟨dn, o, b, off, c, pre, post, F1, F3, hd, hget, hgad, hblk, hc, hl, hF, hxa, hm, hrep⟩ := hgo
   have hf1 := hf.1
   simp only [listAt, hd, Option.bind_some, hget, Bool.and_eq_true, decide_eq_true_eq, Bool.not_eq_true'] at hf1
   obtain ⟨⟨hsk, hfld⟩, _⟩ := hf1
   obtain ⟨r, k, hset⟩ := setP_has np.2 dn.ty dn.val _ t dv hfld hget
   have hskr : sk r = sk dn.ty := setP_sk np.2 ⟨dn.ty, some dn.val⟩ _ ⟨t, some dv⟩ ⟨r, some k⟩ hget hset hsk.symm
   obtain ⟨hgR, hgA⟩ := hpl
   have hga2 : g.addr = some (b, off + o) := by rw [hga, hxa]
   rw [hga2] at hgA
   obtain ⟨hgrows, c', hblk'⟩ := hgA
   have hml : g.cells.length = x.1.ty.size := by rw [Rel_length w' B' _ _ _ _ hgR, hsz]
   have hxl := Rel_length w B _ _ _ _ hm
   obtain ⟨hR, hA⟩ := h.pl np.1 dn hd
   have hdl := Rel_length w B _ _ _ _ hR
   have hle : o + x.1.ty.size ≤ dn.ty.size := by rw [← hdl, hc]; simp only [List.length_append]; omega
   rw [hgad] at hA
   refine ⟨(np.1, .set ⟨r, k⟩) :: W, (np.1, ⟨some (b, off), pre ++ g.cells ++ post, F1 ++ g.F ++ F3⟩) :: gas, ?_, ?_⟩
   ·simp only [objsL, backOs, hd, Option.bind_some, hset, hW, Option.map_some]
   ·refine ⟨x, obs', g, gs', ⟨r, k⟩, W, _, gas, dn, o, b, off, pre, post, F1, F3, g.cells, g.F, rfl, rfl, rfl, rfl, hd, hskr, hgad, rfl, hxa, hga2, hl, hml, hdl, hle, hF, rfl, ⟨?_, ?_, c', hblk'⟩, hBk⟩
    ·exact hrep w' B' hB hB' (fun b' hb' => by
      obtain ⟨k1, k2⟩ := hno np (by simp) x (by simp) hgo2 F1 F3 hF b' hb'
      exact hold b' k1 k2) t dv g.cells g.F ⟨r, some k⟩ k hgR hset rfl
    ·intro i v hi
     have hi : (pre ++ g.cells ++ post)[i]? = some v := hi
     show w'.cell? ⟨b, off + i, none⟩ = some v
     have hold1 : ∀ i v, (pre ++ x.2.cells ++ post)[i]? = some v → w.cell? ⟨b, off + i, none⟩ = some v := fun i v hi => hA.1 i v (by rw [hc]; exact hi)
     by_cases h1 : i < o
     ·rw [hout x (by simp) b (off + o) hxa (off + i) (.inl (by omega))]
      refine hold1 i v ?_
      rw [List.append_assoc, List.getElem?_append_left (by omega)] at hi ⊢
      exact hi
     ·by_cases h2 : i < o + x.1.ty.size
      ·have := hgrows (i - o) v (by
        rw [List.append_assoc, List.getElem?_append_right (by omega), List.getElem?_append_left (by omega), hl] at hi
        exact hi)
       rw [show off + o + (i - o) = off + i by omega] at this
       exact this
      ·rw [hout x (by simp) b (off + o) hxa (off + i) (.inr (by omega))]
       refine hold1 i v ?_
       rw [List.append_assoc, List.getElem?_append_right (by omega), List.getElem?_append_right (by omega), hl] at hi ⊢
       rw [hxl, ← hml]
       exact hi

end
end
end Go.Pv

namespace Go.Pv
noncomputable section
universe u v

theorem flatMap_disj {α : Type} {f : α → List Nat} : ∀ {l : List α}, (l.flatMap f).Nodup → ∀ {i j : Nat} {x y : α}, l[i]? = some x → l[j]? = some y → i ≠ j → ∀ b ∈ f x, b ∉ f y
 | [], _, i, _, _, _, h, _, _ => by simp at h
 | z :: l, hn, i, j, x, y, hx, hy, hne => by
  rw [List.flatMap_cons] at hn
  obtain ⟨h1, h2, h3⟩ := List.nodup_append.1 hn
  intro b hb hb'
  cases i with
  | zero =>
   cases j with
   | zero => exact hne rfl
   | succ j =>
    obtain rfl : z = x := by simpa using hx
    exact h3 b hb b (List.mem_flatMap.2 ⟨y, List.mem_of_getElem? (by simpa using hy), hb'⟩) rfl
  | succ i =>
   cases j with
   | zero =>
    obtain rfl : z = y := by simpa using hy
    exact h3 b hb' b (List.mem_flatMap.2 ⟨x, List.mem_of_getElem? (by simpa using hx), hb⟩) rfl
   | succ j => exact flatMap_disj h2 (by simpa using hx) (by simpa using hy) (by omega) b hb hb'

theorem flatMap_nodup_of {α : Type} {f : α → List Nat} {l : List α} (h : (l.flatMap f).Nodup) {i : Nat} {x : α} (hx : l[i]? = some x) : (f x).Nodup := by
  induction l generalizing i with
  | nil => simp at hx
  | cons z l ih =>
    rw [List.flatMap_cons] at h
    obtain ⟨h1, h2, _⟩ := List.nodup_append.1 h
    cases i with
    | zero => obtain rfl : z = x := by simpa using hx
              exact h1
    | succ i => exact ih h2 (by simpa using hx)

section
variable {X : Cx} {st : St} {a : Act} {w : World} {B : Nat → Prop} {G : Nat → PG} {E : Operand → Option EV}

theorem Back.names {w' : World} {B' : Nat → Prop} {L : Look} : ∀ {os : List (Nat × Path)} {obs : Obs} {gs : List PG} {W : Upds} {gas : List (Nat × PG)}, Back w w' B' G L os obs gs W gas → gas.map (·.1) = os.map (·.1) ∧ updNames W = os.map (·.1)
 | [], _, _, _, _, ⟨_, _, h1, h2⟩ => by subst h1; subst h2; exact ⟨rfl, rfl⟩
 | np :: os, _, _, _, _, ⟨x, obs', g, gs', d, W', ga, gas', dn, o, b, off, pre, post, F1, F3, mid', F', h1, h2, h3, h4, hrest⟩ => by
  subst h3; subst h4
  obtain ⟨k1, k2⟩ := Back.names hrest.2.2.2.2.2.2.2.2.2.2.2.2.2
  exact ⟨by simp [k1], by simp only [updNames] at k2 ⊢; simp [k2]⟩

theorem Back.get {w' : World} {B' : Nat → Prop} {L : Look} : ∀ {os : List (Nat × Path)} {obs : Obs} {gs : List PG} {W : Upds} {gas : List (Nat × PG)} {n : Nat} {ga : PG}, Back w w' B' G L os obs gs W gas → lk n gas = some ga → (os.map (·.1)).Nodup →
  ∃ (k : Nat) (np : Nat × Path) (x : Dyn × PG) (g : PG) (d dn : Dyn) (o b off : Nat) (pre post : List Value) (F1 F3 : List Nat) (mid' : List Value), os[k]? = some np ∧ np.1 = n ∧ obs[k]? = some x ∧ gs[k]? = some g ∧ (n, .set d) ∈ W ∧ (∀ s : St, lk n (applyU W s).pl = some d) ∧
   L n = some dn ∧ sk d.ty = sk dn.ty ∧ (G n).addr = some (b, off) ∧ ga = ⟨some (b, off), pre ++ mid' ++ post, F1 ++ g.F ++ F3⟩ ∧ x.2.addr = some (b, off + o) ∧ g.addr = some (b, off + o) ∧ pre.length = o ∧ mid'.length = x.1.ty.size ∧
   (G n).cells.length = dn.ty.size ∧ o + x.1.ty.size ≤ dn.ty.size ∧ (G n).F = F1 ++ x.2.F ++ F3 ∧ PlR w' B' ga d
 | [], _, _, _, _, _, _, ⟨_, _, _, h2⟩, h, _ => by subst h2; cases h
 | np :: os, _, _, _, _, n, ga0, ⟨x, obs', g, gs', d, W', ga, gas', dn, o, b, off, pre, post, F1, F3, mid', F', h1, h2, h3, h4, h5, h6, h7, h8, h9, h10, h11, h12, h13, h14, h15, h16, h17, hrest⟩, h, hn => by
  subst h1; subst h2; subst h3; subst h4; subst h16
  simp only [List.map_cons, List.nodup_cons] at hn
  simp only [lk] at h
  by_cases e : n = np.1
  ·subst e
   simp only [Nat.beq_refl, cond_true, Option.some.injEq] at h
   subst h
   refine ⟨0, np, x, g, d, dn, o, b, off, pre, post, F1, F3, mid', rfl, rfl, rfl, rfl, by simp, fun s => ?_, h5, h6, h7, h8, h9, h10, h11, h12, h13, h14, h15, h17⟩
   show lk np.1 (applyU W' (apply1 (np.1, .set d) s)).pl = _
   rw [applyU_pl_other W' _ _ (by rw [hrest.names.2]; exact hn.1), apply1_pl, if_pos rfl]
  ·rw [beq_ne e] at h
   obtain ⟨k, np', x', g', d', dn', o', b', off', pre', post', F1', F3', mid'', k1, k2, k3, k4, k5, k6, krest⟩ := hrest.get h hn.2
   exact ⟨k + 1, np', x', g', d', dn', o', b', off', pre', post', F1', F3', mid'', by simpa using k1, k2, by simpa using k3, by simpa using k4, by simp [k5], fun s => k6 _, krest⟩

theorem lk_none_names {α : Type} {n : Nat} : ∀ {l : List (Nat × α)}, lk n l = none → n ∉ l.map (·.1)
 | [], _ => by simp
 | (m, x) :: l, h => by
  simp only [lk] at h
  by_cases e : n = m
  ·subst e; simp at h
  ·rw [beq_ne e] at h
   simp only [List.map_cons, List.mem_cons, not_or]
   exact ⟨e, lk_none_names h⟩

theorem stageA (h : Inv X st a w B G) {os : List (Nat × Path)} {obs : Obs} {rvs : List RV} {ds : List Dyn} {v : Value} {w' : World} {B' : Nat → Prop} {gs : List PG} {rs : List (Value × PG)} {ow : Obs} (how : OwOk X st w B G ow) (hL : Lvs X.dr w B obs ow rvs ds v w' B' gs rs) (hg : GoodL w B G (look st) os obs)
    {W : Upds} {gas : List (Nat × PG)} (hb : Back w w' B' G (look st) os obs gs W gas) (hn : (os.map (·.1)).Nodup) :
    ∃ GA, Inv X (applyU W st) a w' B' GA ∧ ∀ n d, lk n (applyU W st).pl = some d → ∀ b ∈ (GA n).blocks, b ∈ gs.flatMap PG.blocks ∨ (b < w.heap.size ∧ b ∉ Obs.ob (obs ++ ow)) := by
  have hob2 : ∀ b, b ∈ Obs.ob (obs ++ ow) → b ∈ obs.ob ∨ b ∈ Obs.ob ow := fun b hb => by
    unfold Obs.ob at hb ⊢
    rw [List.flatMap_append] at hb
    exact List.mem_append.1 hb
  have hnd := List.nodup_append.1 hL.nd
  have hobB : ∀ b ∈ obs.ob, ∃ np ∈ os, ∃ d, lk np.1 st.pl = some d ∧ b ∈ (G np.1).blocks := by
    intro b hb
    obtain ⟨x, hx, hbx⟩ := Obs.mem_ob.1 hb
    obtain ⟨np, hnp, hgo⟩ := hg.mem x hx
    have := hgo.blocks b hbx
    obtain ⟨dn, _, _, _, _, _, _, _, _, hd, _⟩ := hgo
    exact ⟨np, hnp, dn, hd, this⟩
  have hlt : ∀ n d, lk n st.pl = some d → ∀ b ∈ (G n).blocks, b < w.heap.size := by
    intro m d' hm b hb
    obtain ⟨hR, hA⟩ := h.pl m d' hm
    unfold PG.blocks at hb
    cases hg : (G m).addr with
    | none => rw [hg] at hb; exact Rel_lt _ _ _ _ hR _ hb
    | some q =>
      rw [hg] at hb hA
      rcases List.mem_cons.1 hb with hb | hb
      · obtain ⟨_, c, hc⟩ := hA
        rw [hb]; exact hc.lt
      · exact Rel_lt _ _ _ _ hR _ hb
  let GA : Nat → PG := fun n => (lk n gas).getD (G n)

  have hent : ∀ n ga, lk n gas = some ga → ∃ (k : Nat) (g : PG) (x : Dyn × PG) (np : Nat × Path), os[k]? = some np ∧ np.1 = n ∧ obs[k]? = some x ∧ gs[k]? = some g ∧ (∀ b ∈ ga.blocks, b ∈ g.blocks ∨ (b ∈ (G n).F ∧ b ∉ obs.ob)) ∧ ga.blocks.Nodup ∧ ga.addr = (G n).addr := by
    intro n ga hlk
    obtain ⟨k, np, x, g, d, dn, o, b, off, pre, post, F1, F3, mid', h1, h2, h3, h4, h5, h6, h7, h8, h9, h10, h11, h12, h13, h14, h15, h16, h17, h18⟩ := hb.get hlk hn
    have hdn : lk n st.pl = some dn := h7
    have hndn := (h.sep n dn hdn).1
    have hF13 : ∀ y ∈ F1 ++ F3, y ∈ (G n).F ∧ y ∉ obs.ob := by
      intro y hy
      have hyF : y ∈ (G n).F := by rw [h17]; rcases List.mem_append.1 hy with h | h <;> simp [h]
      refine ⟨hyF, fun hyo => ?_⟩
      obtain ⟨x', hx', hyx⟩ := Obs.mem_ob.1 hyo
      obtain ⟨np', hnp', hgo'⟩ := hg.mem x' hx'
      obtain ⟨k', hk'⟩ := List.getElem?_of_mem hx'
      have hy2 := hgo'.blocks y hyx
      obtain ⟨dn', _, _, _, _, _, _, _, _, hd', _⟩ := hgo'
      by_cases e : np'.1 = n
      ·
        have hkk : k' = k := by
          have hgk : ∀ (os : List (Nat × Path)) (obs : Obs) (k : Nat) (x : Dyn × PG), GoodL w B G (look st) os obs → obs[k]? = some x → ∃ np, os[k]? = some np ∧ GoodO w B G (look st) np x := by
            intro os
            induction os with
            | nil => intro obs k x hg hx; have hg : obs = [] := hg; subst hg; simp at hx
            | cons q os ih =>
              intro obs k x hg hx
              obtain ⟨x0, obs', rfl, h1, h2⟩ := hg
              cases k with
              | zero => obtain rfl : x0 = x := by simpa using hx
                        exact ⟨q, rfl, h1⟩
              | succ k => obtain ⟨np, k1, k2⟩ := ih obs' k x h2 (by simpa using hx)
                          exact ⟨np, by simpa using k1, k2⟩
          obtain ⟨np2, hnp2, hgo2⟩ := hgk os obs k' x' hg hk'
          have hy3 := hgo2.blocks y hyx
          have e2 : np2.1 = n := by
            obtain ⟨dn2, _, _, _, _, _, _, _, _, hd2, _⟩ := hgo2
            by_cases e2 : np2.1 = n
            · exact e2
            · exact absurd (PG.mem_blocks hyF) (h.apart np2.1 n dn2 dn hd2 hdn e2 y hy3)
          have h1' : (os.map (·.1))[k]? = some n := by rw [List.getElem?_map, h1, Option.map_some, h2]
          have h2' : (os.map (·.1))[k']? = some n := by rw [List.getElem?_map, hnp2, Option.map_some, e2]
          exact (List.getElem?_inj (List.getElem?_eq_some_iff.1 h2').1 hn).1 (h2'.trans h1'.symm)
        subst hkk
        rw [h3] at hk'
        obtain rfl := Option.some.inj hk'

        unfold PG.blocks at hndn
        rw [h9, h17] at hndn
        obtain ⟨hnb, hnF⟩ := List.nodup_cons.1 hndn
        obtain ⟨m1, m2, m3⟩ := List.nodup_append.1 hnF
        obtain ⟨m4, m5, m6⟩ := List.nodup_append.1 m1
        unfold PG.blocks at hyx
        rw [h11] at hyx
        rcases List.mem_cons.1 hyx with hyx | hyx
        · rw [h17] at hyF; rw [hyx] at hyF; exact hnb hyF
        · rcases List.mem_append.1 hy with hy | hy
          · exact m6 y hy y hyx rfl
          · exact m3 y (List.mem_append.2 (.inr hyx)) y hy rfl
      · exact h.apart np'.1 n dn' dn hd' hdn e y hy2 (PG.mem_blocks hyF)
    have hgb : g.blocks = b :: g.F := by unfold PG.blocks; rw [h12]
    have hgab : ga.blocks = b :: (F1 ++ g.F ++ F3) := by rw [h10]; rfl
    have hgnd := flatMap_nodup_of hnd.1 h4
    rw [hgb] at hgnd
    have hgob : ∀ y ∈ g.blocks, y < w.heap.size → y ∈ Obs.ob (obs ++ ow) := fun y hy => (hL.sep y (List.mem_append.2 (.inl (List.mem_flatMap.2 ⟨g, List.mem_of_getElem? h4, hy⟩)))).2
    have hdis : ∀ y ∈ F1 ++ F3, y ∉ g.blocks := fun y hy hyg => (hob2 y (hgob y hyg (hlt n dn hdn y (PG.mem_blocks (hF13 y hy).1)))).elim (hF13 y hy).2 (fun ho => how.apart y ho n dn hdn (PG.mem_blocks (hF13 y hy).1))
    refine ⟨k, g, x, np, h1, h2, h3, h4, fun y hy => ?_, ?_, by rw [h10, h9]⟩
    · rw [hgab] at hy
      rcases List.mem_cons.1 hy with rfl | hy
      · exact .inl (by rw [hgb]; simp)
      · rcases List.mem_append.1 hy with hy | hy
        · rcases List.mem_append.1 hy with hy | hy
          · exact .inr (hF13 y (by simp [hy]))
          · exact .inl (by rw [hgb]; simp [hy])
        · exact .inr (hF13 y (by simp [hy]))
    · rw [hgab]
      obtain ⟨g1, g2⟩ := List.nodup_cons.1 hgnd
      unfold PG.blocks at hndn
      rw [h9, h17] at hndn
      obtain ⟨_, hnF⟩ := List.nodup_cons.1 hndn
      obtain ⟨m1, m2, m3⟩ := List.nodup_append.1 hnF
      obtain ⟨m4, m5, m6⟩ := List.nodup_append.1 m1
      refine List.nodup_cons.2 ⟨fun hy => ?_, List.nodup_append.2 ⟨List.nodup_append.2 ⟨m4, g2, fun x hx y hy e => ?_⟩, m2, fun x hx y hy e => ?_⟩⟩
      · rcases List.mem_append.1 hy with hy | hy
        · rcases List.mem_append.1 hy with hy | hy
          · exact hdis b (by simp [hy]) (by rw [hgb]; simp)
          · exact g1 hy
        · exact hdis b (by simp [hy]) (by rw [hgb]; simp)
      · exact hdis x (by simp [hx]) (by rw [hgb, e]; simp [hy])
      · rcases List.mem_append.1 hx with hx | hx
        · exact m3 x (List.mem_append.2 (.inl hx)) y hy e
        · exact hdis y (by simp [hy]) (by rw [hgb, ← e]; simp [hx])
  have hnames : updNames W = os.map (·.1) := hb.names.2
  have hgn : ∀ n, n ∉ updNames W → GA n = G n := by
    intro n hn'
    have : lk n gas = none := by
      cases hlk : lk n gas with
      | none => rfl
      | some ga =>
        obtain ⟨k, g, x, np, h1, h2, _⟩ := hent n ga hlk
        exact absurd (by rw [hnames]; exact List.mem_map.2 ⟨np, List.mem_of_getElem? h1, h2⟩) hn'
    show (lk n gas).getD (G n) = _
    rw [this]; rfl
  have hnone : ∀ n, lk n gas = none → n ∉ updNames W := by
    intro n hlk
    rw [hnames, ← hb.names.1]
    exact lk_none_names hlk
  have hblk : ∀ n d, lk n (applyU W st).pl = some d → ∀ b ∈ (GA n).blocks, (∃ (k : Nat) (g : PG) (np : Nat × Path), os[k]? = some np ∧ np.1 = n ∧ gs[k]? = some g ∧ b ∈ g.blocks) ∨ (b ∈ (G n).blocks ∧ b ∉ obs.ob ∧ ∃ d0, lk n st.pl = some d0) := by
    intro n d hd b hbb
    cases hlk : lk n gas with
    | some ga =>
      have hGA : GA n = ga := by show (lk n gas).getD (G n) = _; rw [hlk]; rfl
      rw [hGA] at hbb
      obtain ⟨k, g, x, np, h1, h2, h3, h4, h5, _, _⟩ := hent n ga hlk
      rcases h5 b hbb with h6 | ⟨h6, h7⟩
      · exact .inl ⟨k, g, np, h1, h2, h4, h6⟩
      · obtain ⟨_, _, _, _, _, dn, _, _, _, _, _, _, _, _, _, _, _, _, _, _, h8, _⟩ := hb.get hlk hn
        exact .inr ⟨PG.mem_blocks h6, h7, dn, h8⟩
    | none =>
      have hnn := hnone n hlk
      rw [hgn n hnn] at hbb
      rw [applyU_pl_other W st n hnn] at hd
      refine .inr ⟨hbb, fun ho => ?_, d, hd⟩
      obtain ⟨np, hnp, d2, hd2, hb2⟩ := hobB b ho
      refine h.apart np.1 n d2 d hd2 hd (fun e => hnn ?_) b hb2 hbb
      rw [hnames, ← e]; exact List.mem_map.2 ⟨np, hnp, rfl⟩
  have hgsob : ∀ b ∈ gs.flatMap PG.blocks, ¬ B' b ∧ (b < w.heap.size → b ∈ Obs.ob (obs ++ ow)) := fun b hb => hL.sep b (List.mem_append.2 (.inl hb))
  refine ⟨GA, ?_, fun n d hd b hbb => ?_⟩
  · refine h.move W w' B' GA hL.size hL.rest hL.keep hL.bsz ?_ ?_ ?_ ?_ hgn ?_ ?_ ?_ ?_
    · intro b hb hB'
      rcases hL.bold b (Nat.lt_of_lt_of_le hb h.size) hB' with hB | ho
      · exact .inl hB
      · rcases hob2 b ho with ho | ho
        case inr => exact .inr ((how.sep b ho).2 hb)
        obtain ⟨np, _, d, hd, hbd⟩ := hobB b ho
        exact .inr ((h.sep np.1 d hd).2 b hbd |>.2 hb)
    · intro b hb hno
      refine hL.old b (Nat.lt_of_lt_of_le hb h.size) fun ho => hno ?_
      rcases hob2 b ho with ho | ho
      case inr => exact (how.sep b ho).2 hb
      obtain ⟨np, _, d, hd, hbd⟩ := hobB b ho
      exact (h.sep np.1 d hd).2 b hbd |>.2 hb
    · intro n d hd
      have hsepn : ∀ b ∈ (GA n).blocks, ¬ B' b ∧ (b < X.w0.heap.size → b ∈ X.ob) := by
        intro b hbb
        rcases hblk n d hd b hbb with ⟨k, g, np, h1, h2, h3, h4⟩ | ⟨h1, h2, d0, h3⟩
        · have hm : b ∈ gs.flatMap PG.blocks := List.mem_flatMap.2 ⟨g, List.mem_of_getElem? h3, h4⟩
          refine ⟨(hgsob b hm).1, fun hlt0 => ?_⟩
          rcases hob2 b ((hgsob b hm).2 (Nat.lt_of_lt_of_le hlt0 h.size)) with ho | ho
          case inr => exact (how.sep b ho).2 hlt0
          obtain ⟨np', _, d', hd', hbd⟩ := hobB b ho
          exact ((h.sep np'.1 d' hd').2 b hbd).2 hlt0
        · refine ⟨fun hB' => ?_, ((h.sep n d0 h3).2 b h1).2⟩
          rcases hL.bold b (hlt n d0 h3 b h1) hB' with hB | ho
          · exact ((h.sep n d0 h3).2 b h1).1 hB
          · exact (hob2 b ho).elim h2 (fun ho => how.apart b ho n d0 h3 h1)
      cases hlk : lk n gas with
      | some ga =>
        have hGA : GA n = ga := by show (lk n gas).getD (G n) = _; rw [hlk]; rfl
        obtain ⟨k, np, x, g, d', dn, o, b, off, pre, post, F1, F3, mid', h1, h2, h3, h4, h5, h6, h7, h8, h9, h10, h11, h12, h13, h14, h15, h16, h17, h18⟩ := hb.get hlk hn
        obtain ⟨_, _, _, _, _, _, _, _, _, hndg, _⟩ := hent n ga hlk
        rw [h6 st] at hd
        obtain rfl := Option.some.inj hd
        refine ⟨by rw [hGA]; exact h18, by rw [hGA]; exact hndg, hsepn⟩
      | none =>
        have hnn := hnone n hlk
        rw [applyU_pl_other W st n hnn] at hd
        have hsame : ∀ b ∈ (G n).blocks, Same w w' b := by
          intro b hbb
          refine hL.old b (hlt n d hd b hbb) fun ho => ?_
          rcases hob2 b ho with ho | ho
          case inr => exact how.apart b ho n d hd hbb
          obtain ⟨np, hnp, d2, hd2, hb2⟩ := hobB b ho
          refine h.apart np.1 n d2 d hd2 hd (fun e => hnn ?_) b hb2 hbb
          rw [hnames, ← e]; exact List.mem_map.2 ⟨np, hnp, rfl⟩
        rw [hgn n hnn]
        rw [hgn n hnn] at hsepn
        obtain ⟨k1, k2⟩ := h.pl n d hd
        refine ⟨⟨Rel_same (fun b hb => (hL.keep b hb).1) (fun b hb => (hL.keep b hb).2) _ _ _ _ k1 (fun b hb => hsame b (PG.mem_blocks hb)), ?_⟩, (h.sep n d hd).1, hsepn⟩
        split
        · trivial
        · rename_i ad had
          rw [had] at k2
          obtain ⟨m1, c, m2⟩ := k2
          have hs := hsame ad.1 (by unfold PG.blocks; rw [had]; simp)
          exact ⟨m1.same hs, c, m2.same hs⟩
    · intro n m d d' hd hd' hne b hbn hbm
      rcases hblk n d hd b hbn with ⟨k, g, np, h1, h2, h3, h4⟩ | ⟨h1, h2, d0, h3⟩
      · have hm : b ∈ gs.flatMap PG.blocks := List.mem_flatMap.2 ⟨g, List.mem_of_getElem? h3, h4⟩
        rcases hblk m d' hd' b hbm with ⟨k', g', np', h1', h2', h3', h4'⟩ | ⟨h1', h2', d0', h3'⟩
        · refine flatMap_disj hnd.1 h3 h3' (fun e => ?_) b h4 h4'
          subst e
          rw [h1] at h1'
          obtain rfl := Option.some.inj h1'
          exact hne (h2.symm.trans h2')
        · exact (hob2 b ((hgsob b hm).2 (hlt m d0' h3' b h1'))).elim h2' (fun ho => how.apart b ho m d0' h3' h1')
      · rcases hblk m d' hd' b hbm with ⟨k', g', np', h1', h2', h3', h4'⟩ | ⟨h1', h2', d0', h3'⟩
        · have hm : b ∈ gs.flatMap PG.blocks := List.mem_flatMap.2 ⟨g', List.mem_of_getElem? h3', h4'⟩
          exact (hob2 b ((hgsob b hm).2 (hlt n d0 h3 b h1))).elim h2 (fun ho => how.apart b ho n d0 h3 h1)
        · exact h.apart n m d0 d0' h3 h3' hne b h1 h1'
    · intro u hu
      right
      have hun : u.1 ∈ updNames W := List.mem_map.2 ⟨u, hu, rfl⟩
      cases hlk : lk u.1 gas with
      | none => exact absurd hun (hnone u.1 hlk)
      | some ga =>
        have hGA : GA u.1 = ga := by show (lk u.1 gas).getD (G u.1) = _; rw [hlk]; rfl
        obtain ⟨k, np, x, g, d', dn, o, b, off, pre, post, F1, F3, mid', h1, h2, h3, h4, h5, h6, h7, h8, h9, h10, hrest⟩ := hb.get hlk hn
        refine ⟨by rw [hGA, h10, h9], ⟨dn, d', h7, h6 st, h8⟩, .inr (.inr ⟨_, h5, rfl, rfl⟩)⟩
    · intro k' d' hk'
      cases hlk : lk (objName k') gas with
      | none =>
        have hnn := hnone _ hlk
        rw [applyU_pl_other W st _ hnn] at hk'
        rw [hgn _ hnn]
        exact h.obj k' d' hk'
      | some ga =>
        have hGA : GA (objName k') = ga := by show (lk (objName k') gas).getD _ = _; rw [hlk]; rfl
        obtain ⟨k, np, x, g, d2, dn, o, b, off, pre, post, F1, F3, mid', h1, h2, h3, h4, h5, h6, h7, h8, h9, h10, hrest⟩ := hb.get hlk hn
        rw [h6 st] at hk'
        obtain rfl := Option.some.inj hk'
        obtain ⟨b1, o1, s, m1, m2, m3⟩ := h.obj k' dn h7
        refine ⟨b1, o1, s, m1, by rw [hGA, h10, ← h9]; exact m2, by rw [size_of_sk h8]; exact m3⟩
    · intro k' b2 o2 s2 ho2 i hi
      by_cases hbo : b2 ∈ obs.ob
      · obtain ⟨x, hx, hbx⟩ := Obs.mem_ob.1 hbo
        obtain ⟨np, hnp, hgo⟩ := hg.mem x hx
        have hb2 := hgo.blocks b2 hbx
        obtain ⟨dn, o, b, off, c, pre, post, F1, F3, hd, hget, hga, hblk0, hc, hl, hF, hxa, hm, hrep⟩ := hgo
        have hd : lk np.1 st.pl = some dn := hd
        obtain ⟨d2, hd2⟩ := h.objL k' b2 o2 s2 ho2
        obtain ⟨b3, o3, s3, m1, m2, m3⟩ := h.obj k' d2 hd2
        rw [ho2] at m1
        simp only [Option.some.injEq, Prod.mk.injEq] at m1
        obtain ⟨rfl, rfl, rfl⟩ := m1
        have hbk : b2 ∈ (G (objName k')).blocks := by unfold PG.blocks; rw [m2]; simp
        have e : np.1 = objName k' := by
          by_cases e : np.1 = objName k'
          · exact e
          · exact absurd hbk (h.apart _ _ dn d2 hd hd2 e b2 hb2)
        rw [← e] at m2 hd2
        rw [hga] at m2
        simp only [Option.some.injEq, Prod.mk.injEq] at m2
        obtain ⟨rfl, rfl⟩ := m2
        rw [hd] at hd2
        obtain rfl := Option.some.inj hd2
        obtain ⟨hR, _⟩ := h.pl np.1 dn hd
        have hlen := Rel_length w B _ _ _ _ hR
        have hml := Rel_length w B _ _ _ _ hm
        rw [hc] at hlen
        simp only [List.length_append] at hlen
        exact hL.out x hx b (off + o) hxa i (by omega)
      · refine (hL.old b2 (Nat.lt_of_lt_of_le (h.oaLt k' b2 o2 s2 ho2) h.size) fun ho => (hob2 b2 ho).elim hbo fun ho => ?_).cell i
        obtain ⟨d2, hd2⟩ := h.objL k' b2 o2 s2 ho2
        obtain ⟨b3, o3, s3, m1, m2, m3⟩ := h.obj k' d2 hd2
        rw [ho2] at m1
        simp only [Option.some.injEq, Prod.mk.injEq] at m1
        obtain ⟨rfl, rfl, rfl⟩ := m1
        exact how.apart b2 ho _ d2 hd2 (by unfold PG.blocks; rw [m2]; simp)
    · intro u hu hdel
      have hun : u.1 ∈ updNames W := List.mem_map.2 ⟨u, hu, rfl⟩
      exfalso
      have key : ∀ (os : List (Nat × Path)) (obs : Obs) (gs : List PG) (W : Upds) (gas : List (Nat × PG)), Back w w' B' G (look st) os obs gs W gas → ∀ u ∈ W, u.2.isDel = true → False := by
        intro os
        induction os with
        | nil => intro obs gs W gas hb u hu; obtain ⟨_, _, h3, _⟩ := hb; subst h3; cases hu
        | cons q os ih =>
          intro obs gs W gas hb u hu hd
          obtain ⟨x, obs', g, gs', d, W', ga, gas', dn, o, b, off, pre, post, F1, F3, mid', F', h1, h2, h3, h4, hrest⟩ := hb
          subst h3
          rcases List.mem_cons.1 hu with rfl | hu
          · cases hd
          · exact ih _ _ _ _ hrest.2.2.2.2.2.2.2.2.2.2.2.2.2 u hu hd
      exact key os obs gs W gas hb u hu hdel
  · rcases hblk n d hd b hbb with ⟨k, g, np, h1, h2, h3, h4⟩ | ⟨h1, h2, d0, h3⟩
    · exact .inl (List.mem_flatMap.2 ⟨g, List.mem_of_getElem? h3, h4⟩)
    · exact .inr ⟨hlt n d0 h3 b h1, fun ho => (hob2 b ho).elim h2 (fun ho => how.apart b ho n d0 h3 h1)⟩

end
end
end Go.Pv

namespace Go.Pv
noncomputable section
universe u v

section
variable {X : Cx} {st : St} {a : Act} {w : World} {B : Nat → Prop} {G : Nat → PG} {E : Operand → Option EV}

theorem nameOf_inj {dst i j : Nat} (h : nameOf dst i = nameOf dst j) : i = j := by unfold nameOf at h; omega

theorem backRs_names (dst : Nat) : ∀ (rvs : List RV) (i n : Nat), n ∈ updNames (backRs dst i rvs).2 → ∃ j, i ≤ j ∧ n = nameOf dst j
 | [], _, _, h => by cases h
 | .val d :: l, i, n, h => by
  obtain ⟨j, h1, h2⟩ := backRs_names dst l (i + 1) n h
  exact ⟨j, by omega, h2⟩
 | .own d :: l, i, n, h => by
  simp only [backRs, updNames, List.map_cons, List.mem_cons] at h
  rcases h with h | h
  ·exact ⟨i, Nat.le_refl _, h⟩
  ·obtain ⟨j, h1, h2⟩ := backRs_names dst l (i + 1) n h
   exact ⟨j, by omega, h2⟩
 | .ptr d :: l, i, n, h => by
  simp only [backRs, updNames, List.map_cons, List.mem_cons] at h
  rcases h with h | h
  ·exact ⟨i, Nat.le_refl _, h⟩
  ·obtain ⟨j, h1, h2⟩ := backRs_names dst l (i + 1) n h
   exact ⟨j, by omega, h2⟩

theorem stageB (dst : Nat) : ∀ (rvs : List RV) (rs : List (Value × PG)) (i : Nat) (st : St) (G : Nat → PG), Inv X st a w B G → RsRel w B rvs rs → (rs.flatMap fun x => x.2.blocks).Nodup →
  (∀ b ∈ rs.flatMap (fun x => x.2.blocks), ¬ B b ∧ (b < X.w0.heap.size → b ∈ X.ob)) → (∀ b ∈ rs.flatMap (fun x => x.2.blocks), ∀ n d, lk n st.pl = some d → b ∉ (G n).blocks) →
  ∃ G', Inv X (applyU (backRs dst i rvs).2 st) a w B G' ∧ EVRL (tv a) w B G' (look (applyU (backRs dst i rvs).2 st)) (backRs dst i rvs).1 (rs.map (·.1)) ∧ ∀ n, n ∉ updNames (backRs dst i rvs).2 → G' n = G n
 | [], rs, i, st, G, h, hr, _, _, _ => by
  have hr : rs = [] := hr
  subst hr
  exact ⟨G, h, by simp [backRs, EVRL], fun _ _ => rfl⟩
 | rv :: rvs, _, i, st, G, h, ⟨v, g, rs, rfl, h1, hr⟩, hnd, hsep, hap => by
  rw [List.flatMap_cons] at hnd
  obtain ⟨nd1, nd2, nd3⟩ := List.nodup_append.1 hnd
  have hsep2 : ∀ b ∈ rs.flatMap (fun x => x.2.blocks), ¬ B b ∧ (b < X.w0.heap.size → b ∈ X.ob) := fun b hb => hsep b (by rw [List.flatMap_cons]; exact List.mem_append.2 (.inr hb))
  have hap2 : ∀ b ∈ rs.flatMap (fun x => x.2.blocks), ∀ n d, lk n st.pl = some d → b ∉ (G n).blocks := fun b hb => hap b (by rw [List.flatMap_cons]; exact List.mem_append.2 (.inr hb))
  have hnew : ∀ (d : Dyn), PlR w B g d → Inv X (applyU [(nameOf dst i, .new d)] st) a w B (setG G (nameOf dst i) g) := fun d hpl =>
   h.newPl (g := g) (Nat.le_refl _) ⟨rfl, rfl, rfl, fun _ => Nat.le_refl _⟩ (fun _ _ _ => rfl) (nameOf_even dst i) hpl nd1 (fun b hb => hsep b (by rw [List.flatMap_cons]; exact List.mem_append.2 (.inl hb))) (fun b hb m d' hm => hap b (by rw [List.flatMap_cons]; exact List.mem_append.2 (.inl hb)) m d' hm)
  have rest : ∀ (d : Dyn) (e : EV), PlR w B g d → (backRs dst i (rv :: rvs)) = (e :: (backRs dst (i + 1) rvs).1, (nameOf dst i, .new d) :: (backRs dst (i + 1) rvs).2) →
    (∀ tv, EVR tv w B (setG G (nameOf dst i) g) (look (applyU [(nameOf dst i, .new d)] st)) e v) → (∀ n, e.hits n true = true → n = nameOf dst i) →
    ∃ G', Inv X (applyU (backRs dst i (rv :: rvs)).2 st) a w B G' ∧ EVRL (tv a) w B G' (look (applyU (backRs dst i (rv :: rvs)).2 st)) (backRs dst i (rv :: rvs)).1 (((v, g) :: rs).map (·.1)) ∧ ∀ n, n ∉ updNames (backRs dst i (rv :: rvs)).2 → G' n = G n := by
   intro d e hpl heq hev hhit
   have hap3 : ∀ b ∈ rs.flatMap (fun x => x.2.blocks), ∀ n d', lk n (applyU [(nameOf dst i, .new d)] st).pl = some d' → b ∉ (setG G (nameOf dst i) g n).blocks := by
    intro b hb n d' hd'
    have hd' : lk n (put (nameOf dst i) d st.pl) = some d' := hd'
    rw [lk_put] at hd'
    by_cases e : n = nameOf dst i
    ·rw [e, setG_same]
     exact fun hg => nd3 b hg b hb rfl
    ·rw [if_neg e] at hd'
     rw [setG_ne G g e]
     exact hap2 b hb n d' hd'
   obtain ⟨G', k1, k2, k3⟩ := stageB dst rvs rs (i + 1) (applyU [(nameOf dst i, .new d)] st) (setG G (nameOf dst i) g) (hnew d hpl) hr nd2 hsep2 hap3
   have hnot : nameOf dst i ∉ updNames (backRs dst (i + 1) rvs).2 := by
    intro hm
    obtain ⟨j, h1, h2⟩ := backRs_names dst rvs (i + 1) _ hm
    have := nameOf_inj h2
    omega
   rw [heq]
   refine ⟨G', k1, ?_, fun n hn => ?_⟩
   ·simp only [EVRL, List.map_cons]
    refine ⟨v, _, rfl, ?_, k2⟩
    refine EVR_mono (fun b hb => ⟨rfl, hb⟩) e v (hev (tv a)) (fun n hn => ?_) (fun n hn => ?_)
    ·have := hhit n hn
     subst this
     refine ⟨fun d0 hd0 => ⟨d0, ?_, rfl⟩, by rw [k3 _ hnot]⟩
     show lk _ (applyU (backRs dst (i + 1) rvs).2 (applyU [(nameOf dst i, .new d)] st)).pl = _
     rw [applyU_pl_other _ _ _ hnot]
     exact hd0
    ·have := hhit n (hits_soft_hard e n hn)
     subst this
     rw [k3 _ hnot]
   ·simp only [updNames, List.map_cons, List.mem_cons, not_or] at hn
    rw [k3 n hn.2, setG_ne G g hn.1]
  cases rv with
  | val d =>
   obtain ⟨hp, hv, hgb⟩ := h1
   obtain ⟨G', k1, k2, k3⟩ := stageB dst rvs rs (i + 1) st G h hr nd2 hsep2 hap2
   refine ⟨G', k1, ?_, k3⟩
   show EVRL (tv a) w B G' _ (.val d :: (backRs dst (i + 1) rvs).1) _
   simp only [EVRL, List.map_cons]
   exact ⟨v, _, rfl, by simp only [EVR]; exact ⟨hp, hv⟩, k2⟩
  | own d =>
   obtain ⟨ha, hc, hpl, hag⟩ := h1
   refine rest d (.at_ (nameOf dst i) []) hpl rfl (fun tv => at_new hc ?_ hag) (fun n hn => by simpa [EV.hits] using hn)
   rw [← hc]; exact Rel_length w B _ _ _ _ hpl.1
  | ptr d =>
   obtain ⟨b, o, ha, hv, hpl⟩ := h1
   subst hv
   exact rest d (.loc (nameOf dst i) []) hpl rfl (fun tv => loc_new ha) (fun n hn => by simpa [EV.hits] using hn)

theorem objFit_sz : ∀ {os : List (Nat × Path)} {obs : Obs} {ts : List Ty}, GoodL w B G (look st) os obs → objFit (look st) os ts = true → ∀ x ∈ obs, x.1.ty.size ≠ 0
 | [], obs, _, hg, _, x, hx => by have hg : obs = [] := hg; subst hg; cases hx
 | np :: os, _, [], _, hf, _, _ => by cases hf
 | np :: os, _, t :: ts, ⟨x0, obs', h1, h2, h3⟩, hf, x, hx => by
  subst h1
  simp only [objFit, Bool.and_eq_true] at hf
  rcases List.mem_cons.1 hx with rfl | hx
  ·obtain ⟨dn, o, b, off, c, pre, post, F1, F3, hd, hget, _⟩ := h2
   have hf1 := hf.1
   simp only [listAt, hd, Option.bind_some, hget, Bool.and_eq_true, Bool.not_eq_true'] at hf1
   intro e
   have := hf1.2
   rw [e] at this; simp at this
  ·exact objFit_sz h3 hf.2 x hx

theorem Lvs.one {dr : Bool} {os ow : Obs} {rvs : List RV} {ds : List Dyn} {v : Value} {w' : World} {B' : Nat → Prop} {gs : List PG} {rs : List (Value × PG)} (hL : Lvs dr w B os ow rvs ds v w' B' gs rs) {tv : Nat → Value} {G : Nat → PG} {L : Look} {l : List EV} (h : EVRL tv w' B' G L l (rs.map (·.1))) (hlen : l.length = rs.length) :
  EVR tv w' B' G L (tupOf l) v := by
 have hv := hL.val
 match l, rs, h, hlen, hv with
 | [e], [x], h, _, hv =>
  simp only [List.map_cons, List.map_nil, EVRL] at h
  obtain ⟨v', r, h1, h2, _⟩ := h
  obtain ⟨rfl, _⟩ := List.cons.inj h1
  rw [hv]; exact h2
 | [], [], h, _, hv =>
  simp only [tupOf, EVR]
  exact ⟨#[], hv, by simpa using h⟩
 | e1 :: e2 :: l, x1 :: x2 :: rs, h, _, hv =>
  simp only [tupOf, EVR]
  refine ⟨_, hv, ?_⟩
  simpa using h
 | [e], [], _, hl, _ => cases hl
 | [], _ :: _, _, hl, _ => cases hl
 | [_], _ :: _ :: _, _, hl, _ => cases hl
 | _ :: _ :: _, [], _, hl, _ => cases hl
 | _ :: _ :: _, [_], _, hl, _ => cases hl

theorem backRs_len (dst : Nat) : ∀ (rvs : List RV) (i : Nat), (backRs dst i rvs).1.length = rvs.length
 | [], _ => rfl
 | .val d :: l, i => by simp only [backRs, List.length_cons, backRs_len dst l (i + 1)]
 | .own d :: l, i => by simp only [backRs, List.length_cons, backRs_len dst l (i + 1)]
 | .ptr d :: l, i => by simp only [backRs, List.length_cons, backRs_len dst l (i + 1)]

theorem RsRel.len {w' : World} : ∀ {rvs : List RV} {rs : List (Value × PG)}, RsRel w' B rvs rs → rs.length = rvs.length
 | [], _, h => by have h : _ = [] := h; subst h; rfl
 | _ :: _, _, ⟨_, _, _, h, _, h2⟩ => by subst h; simp [h2.len]

theorem Obs.app {os ow : Obs} {b : Nat} (h : b ∈ Obs.ob (os ++ ow)) : b ∈ Obs.ob os ∨ b ∈ Obs.ob ow := by
 unfold Obs.ob at h ⊢
 rw [List.flatMap_append] at h
 exact List.mem_append.1 h

theorem callFin (h : Inv X st a w B G) {os : List (Nat × Path)} {obs : Obs} {res : List RK} {objs : List Ty} {x : ResT res × ObjT objs} {v : Value} {w' : World} {B' : Nat → Prop} {gs : List PG} {rs : List (Value × PG)} (dst : Nat) {ow : Obs} (how : OwOk X st w B G ow) (hL : Lvs X.dr w B obs ow (resL res x.1) (objsL objs x.2) v w' B' gs rs)
    (hgood : GoodL w B G (look st) os obs) (hnodup : (os.map (·.1)).Nodup) (hfit : objFit (look st) os objs = true) :
    ∃ W G', backOs (look st) os (objsL objs x.2) = some W ∧ Inv X (applyU (W ++ (backRs dst 0 (resL res x.1)).2) st) a w' B' G' ∧
      EVR (tv a) w' B' G' (look (applyU (W ++ (backRs dst 0 (resL res x.1)).2) st)) (tupOf (backRs dst 0 (resL res x.1)).1) v := by
  have hlt : ∀ n d, lk n st.pl = some d → ∀ b ∈ (G n).blocks, b < w.heap.size := by
    intro m d' hm b hb
    obtain ⟨hR, hA⟩ := h.pl m d' hm
    unfold PG.blocks at hb
    cases hg : (G m).addr with
    | none => rw [hg] at hb; exact Rel_lt _ _ _ _ hR _ hb
    | some q =>
      rw [hg] at hb hA
      rcases List.mem_cons.1 hb with hb | hb
      · obtain ⟨_, c, hc⟩ := hA
        rw [hb]; exact hc.lt
      · exact Rel_lt _ _ _ _ hR _ hb
  have hno : ∀ np ∈ os, ∀ x ∈ obs, GoodO w B G (look st) np x → ∀ F1 F3, (G np.1).F = F1 ++ x.2.F ++ F3 → ∀ b ∈ F1 ++ F3, b < w.heap.size ∧ b ∉ Obs.ob (obs ++ ow) := by
    intro np hnp y hy hgo F1 F3 hF b hb
    have hbF : b ∈ (G np.1).F := by rw [hF]; rcases List.mem_append.1 hb with h | h <;> simp [h]
    have hgo0 := hgo
    obtain ⟨dn, o, b0, off, c, pre, post, F1', F3', hd, hget, hga, hblk, hc, hl, hF', hxa, hm, hrep⟩ := hgo
    have hd : lk np.1 st.pl = some dn := hd
    refine ⟨hlt _ dn hd b (PG.mem_blocks hbF), fun ho => ?_⟩
    rcases Obs.app ho with ho | ho
    case inr => exact how.apart b ho np.1 dn hd (PG.mem_blocks hbF)
    obtain ⟨z, hz, hbz⟩ := Obs.mem_ob.1 ho
    obtain ⟨np', hnp', hgo'⟩ := hgood.mem z hz
    have hbz2 := hgo'.blocks b hbz
    have hd' : ∃ d, lk np'.1 st.pl = some d := by obtain ⟨dn', _, _, _, _, _, _, _, _, hd', _⟩ := hgo'; exact ⟨dn', hd'⟩
    obtain ⟨dn', hd'⟩ := hd'
    have hnd1 := (h.sep np.1 dn hd).1
    by_cases e : np'.1 = np.1
    ·
      have hzy : z = y := by
        obtain ⟨kz, hkz⟩ := List.getElem?_of_mem hz
        obtain ⟨ky, hky⟩ := List.getElem?_of_mem hy
        have hgk : ∀ (os : List (Nat × Path)) (obs : Obs) (k : Nat) (x : Dyn × PG), GoodL w B G (look st) os obs → obs[k]? = some x → ∃ np, os[k]? = some np ∧ GoodO w B G (look st) np x := by
          intro os
          induction os with
          | nil => intro obs k x hg hx; have hg : obs = [] := hg; subst hg; simp at hx
          | cons q os ih =>
            intro obs k x hg hx
            obtain ⟨x0, obs', rfl, h1, h2⟩ := hg
            cases k with
            | zero => obtain rfl : x0 = x := by simpa using hx
                      exact ⟨q, rfl, h1⟩
            | succ k => obtain ⟨np, k1, k2⟩ := ih obs' k x h2 (by simpa using hx)
                        exact ⟨np, by simpa using k1, k2⟩
        obtain ⟨nz, hnz, hgz⟩ := hgk os obs kz z hgood hkz
        obtain ⟨ny, hny, hgy⟩ := hgk os obs ky y hgood hky
        have ez : nz.1 = np.1 := by
          have hb3 := hgz.blocks b hbz
          have hdz : ∃ d, lk nz.1 st.pl = some d := by obtain ⟨dn', _, _, _, _, _, _, _, _, hd', _⟩ := hgz; exact ⟨dn', hd'⟩
          obtain ⟨dz, hdz⟩ := hdz
          by_cases e2 : nz.1 = np.1
          · exact e2
          · exact absurd (PG.mem_blocks hbF) (h.apart nz.1 np.1 dz dn hdz hd e2 b hb3)
        have ey : ny.1 = np.1 := by
          have hy1 : y.2.addr = some (b0, off + o) := hxa
          have hb3 : b0 ∈ y.2.blocks := by unfold PG.blocks; rw [hy1]; simp
          have hb4 := hgy.blocks b0 hb3
          have hb5 := hgo0.blocks b0 hb3
          have hdy : ∃ d, lk ny.1 st.pl = some d := by obtain ⟨dn', _, _, _, _, _, _, _, _, hd', _⟩ := hgy; exact ⟨dn', hd'⟩
          obtain ⟨dy, hdy⟩ := hdy
          by_cases e2 : ny.1 = np.1
          · exact e2
          · exact absurd hb5 (h.apart ny.1 np.1 dy dn hdy hd e2 b0 hb4)
        have h1' : (os.map (·.1))[kz]? = some np.1 := by rw [List.getElem?_map, hnz, Option.map_some, ez]
        have h2' : (os.map (·.1))[ky]? = some np.1 := by rw [List.getElem?_map, hny, Option.map_some, ey]
        have hkk := (List.getElem?_inj (List.getElem?_eq_some_iff.1 h1').1 hnodup).1 (h1'.trans h2'.symm)
        rw [hkk, hky] at hkz
        exact (Option.some.inj hkz).symm
      rw [hzy] at hbz
      unfold PG.blocks at hnd1 hbz
      rw [hga, hF] at hnd1
      rw [hxa] at hbz
      obtain ⟨hnb, hnF⟩ := List.nodup_cons.1 hnd1
      obtain ⟨m1, m2, m3⟩ := List.nodup_append.1 hnF
      obtain ⟨m4, m5, m6⟩ := List.nodup_append.1 m1
      rcases List.mem_cons.1 hbz with hbz | hbz
      · rw [hF] at hbF; rw [hbz] at hbF; exact hnb hbF
      · rcases List.mem_append.1 hb with hb | hb
        · exact m6 b hb b hbz rfl
        · exact m3 b (List.mem_append.2 (.inr hbz)) b hb rfl
    · exact h.apart np'.1 np.1 dn' dn hd' hd e b hbz2 (PG.mem_blocks hbF)
  obtain ⟨W, gas, hW, hBk⟩ := back_ok h (fun b hb => (hL.keep b hb).1) (fun b hb => (hL.keep b hb).2) hL.old os obs objs x.2 gs hgood hL.obs hfit hL.out hno
  obtain ⟨GA, hIA, hblA⟩ := stageA h how hL hgood hBk hnodup
  have hnd := List.nodup_append.1 hL.nd
  have hresb : ∀ b ∈ rs.flatMap (fun x => x.2.blocks), ¬ B' b ∧ (b < w.heap.size → b ∈ Obs.ob (obs ++ ow)) := fun b hb => hL.sep b (List.mem_append.2 (.inr hb))
  obtain ⟨G', hIB, hEVL, _⟩ := stageB dst (resL res x.1) rs 0 (applyU W st) GA hIA hL.res hnd.2.1
    (fun b hb => ⟨(hresb b hb).1, fun hlt0 => by
      rcases Obs.app ((hresb b hb).2 (Nat.lt_of_lt_of_le hlt0 h.size)) with ho | ho
      case inr => exact (how.sep b ho).2 hlt0
      obtain ⟨z, hz, hbz⟩ := Obs.mem_ob.1 ho
      obtain ⟨np, _, hgo⟩ := hgood.mem z hz
      have hbg := hgo.blocks b hbz
      obtain ⟨dn, _, _, _, _, _, _, _, _, hd, _⟩ := hgo
      exact ((h.sep np.1 dn hd).2 b hbg).2 hlt0⟩)
    (fun b hb n d hd hbn => by
      rcases hblA n d hd b hbn with hg | ⟨h1, h2⟩
      · exact hnd.2.2 b hg b hb rfl
      · exact h2 ((hresb b hb).2 h1))
  refine ⟨W, G', hW, by rw [applyU_append]; exact hIB, ?_⟩
  refine hL.one ?_ (by rw [backRs_len, hL.res.len])
  rw [applyU_append]; exact hEVL

theorem RelL_flat {α : Type} {R R' : α → List Value → List Nat → Prop} (h : ∀ x cs F, R x cs F → R' x cs F) {xs : List α} {cs : List Value} {F : List Nat} (hr : RelL R xs cs F) : RelL R' xs cs F := RelL_mono h xs cs F hr

theorem Rel_flat {w : World} {B B' : Nat → Prop} : ∀ (t : Ty) (x : T t) cs F, t.flat = true → Rel w B t x cs F → Rel w B' t x cs F
 | .int _, _, _, _, _, h => h
 | .bool, _, _, _, _, h => h
 | .str, _, _, _, _, h => h
 | .unit, _, _, _, _, h => h
 | .pair a b, x, _, _, hf, ⟨c1, c2, F1, F2, hc, hF, h1, h2⟩ => by
  simp only [Ty.flat, Bool.and_eq_true] at hf
  exact ⟨c1, c2, F1, F2, hc, hF, Rel_flat a _ _ _ hf.1 h1, Rel_flat b _ _ _ hf.2 h2⟩
 | .agg a, x, cs, F, hf, h => Rel_flat a x cs F hf h
 | .arr n e, xs, cs, F, hf, h => ⟨h.1, RelL_flat (fun x cs F hx => Rel_flat e x cs F hf hx) h.2⟩
 | .own e, xs, cs, F, hf, ⟨v, hv, h⟩ => by
  refine ⟨v, hv, ?_⟩
  rcases h with h | ⟨b, cap, c, F', h1, h2, h3, h4, h5, h6, h7⟩
  ·exact .inl h
  ·exact .inr ⟨b, cap, c, F', h1, h2, h3, h4, h5, RelL_flat (fun x cs F hx => Rel_flat e x cs F hf hx) h6, h7⟩
 | .junk, _, _, _, _, h => h
 | .box t, o, cs, F, hf, h => by
  cases o with
  | none => exact h
  | some x =>
   obtain ⟨b, c, F', h1, h2, h3, h4⟩ := h
   exact ⟨b, c, F', h1, h2, Rel_flat t x _ _ hf h3, h4⟩
 | .nils _, _, _, _, _, h => h
 | .nilp, _, _, _, _, h => h
 | .nili, _, _, _, _, h => h
 | .alt u t r, s, cs, F, hf, h => by
  simp only [Ty.flat, Bool.and_eq_true] at hf
  obtain ⟨h0, h⟩ := h
  refine ⟨h0, ?_⟩
  cases s with
  | inl x =>
   obtain ⟨v, h1, h2, h3⟩ := h
   exact ⟨v, h1, Rel_flat t x _ _ hf.1 h2, h3⟩
  | inr y => exact ⟨Rel_flat r y _ _ hf.2 h.1, h.2⟩
 | .slice _, _, _, _, hf, _ => by cases hf
 | .app _, _, _, _, hf, _ => by cases hf
 | .ptr _, _, _, _, hf, _ => by cases hf
 | .iter, _, _, _, _, h => h

theorem PlR_flat {w : World} {B B' : Nat → Prop} {g : PG} {d : Dyn} (hf : d.ty.flat = true) (h : PlR w B g d) : PlR w B' g d := ⟨Rel_flat _ _ _ _ hf h.1, h.2⟩

theorem RsRel.flat {w : World} {B B' : Nat → Prop} : ∀ (l : List RK) (x : ResT l) (rs : List (Value × PG)), l.all (fun r => r.ty.flat) = true → RsRel w B (resL l x) rs → RsRel w B' (resL l x) rs
 | [], _, _, _, h => h
 | r :: l, x, _, hf, ⟨v, g, t, h1, h2, h3⟩ => by
  simp only [List.all_cons, Bool.and_eq_true] at hf
  refine ⟨v, g, t, h1, ?_, RsRel.flat l x.2 t hf.2 h3⟩
  cases r with
  | val τ => exact ⟨h2.1, ⟨Rel_flat _ _ _ _ hf.1 h2.2.1.1, h2.2.1.2⟩, h2.2.2⟩
  | own τ => exact ⟨h2.1, h2.2.1, PlR_flat hf.1 h2.2.2.1, h2.2.2.2⟩
  | ptr τ => obtain ⟨b, o, k1, k2, k3⟩ := h2; exact ⟨b, o, k1, k2, PlR_flat hf.1 k3⟩

theorem OsRel.flat {w : World} {B B' : Nat → Prop} : ∀ (os : Obs) (l : List Ty) (x : ObjT l) (gs : List PG), l.all Ty.flat = true → OsRel w B os (objsL l x) gs → OsRel w B' os (objsL l x) gs
 | [], _, _, _, _, h => h
 | o :: os, [], _, _, _, ⟨d, g, ds', gs', h1, _⟩ => by cases h1
 | o :: os, t :: l, x, _, hf, ⟨d, g, ds', gs', h1, h2, h3, h4, h5, h6⟩ => by
  simp only [List.all_cons, Bool.and_eq_true] at hf
  simp only [objsL, List.cons.injEq] at h1
  obtain ⟨rfl, rfl⟩ := h1
  exact ⟨_, g, _, gs', rfl, h2, PlR_flat hf.1 h3, h4, h5, OsRel.flat os l x.2 gs' hf.2 h6⟩

theorem AR.good2 {B1 : Nat → Prop} {G1 : Nat → PG} {L1 : Look} (h : Inv X st a w B G) : ∀ (avs : List AV) (os : List (Nat × Path)) (ow : Obs) (vs : List Value), (∀ x ∈ os, L1 x.1 = look st x.1 ∧ G1 x.1 = G x.1) → AR w B1 G1 L1 avs os ow vs → ∃ obs, GoodL w B G (look st) os obs ∧ ARel w B1 avs obs ow vs
 | [], os, ow, vs, _, ⟨h1, h2, h3⟩ => ⟨[], by subst h1; rfl, rfl, h2, h3⟩
 | .own d :: l, os, _, _, ho, ⟨v, r, g, ow', h1, h2, h3, h4⟩ => by
  obtain ⟨obs, k1, k2⟩ := AR.good2 h l os ow' r ho h4
  exact ⟨obs, k1, v, r, g, ow', h1, h2, h3, k2⟩
 | .val d :: l, os, ow, _, ho, ⟨v, r, h1, h2, h3, h4⟩ => by
  obtain ⟨obs, k1, k2⟩ := AR.good2 h l os ow r ho h4
  exact ⟨obs, k1, v, r, h1, h2, h3, k2⟩
 | .ref d :: l, os, ow, _, ho, ⟨v, r, h1, h2, h4⟩ => by
  obtain ⟨obs, k1, k2⟩ := AR.good2 h l os ow r ho h4
  exact ⟨obs, k1, v, r, h1, h2, k2⟩
 | .fn f caps :: l, os, ow, _, ho, ⟨v, r, h1, h2, h3, h4⟩ => by
  obtain ⟨obs, k1, k2⟩ := AR.good2 h l os ow r ho h4
  exact ⟨obs, k1, v, r, h1, h2, h3, k2⟩
 | .obj d :: l, _, ow, _, ho, ⟨v, r, n, p, os', h1, h2, ⟨dn, o, b, off, hd, hget, hof, hg, hv⟩, h4⟩ => by
  subst h2
  obtain ⟨obs, k1, k2⟩ := AR.good2 h l os' ow r (fun x hx => ho x (by simp [hx])) h4
  obtain ⟨e1, e2⟩ := ho (n, p) (by simp)
  have hd : lk n st.pl = some dn := e1.symm.trans hd
  have hg : (G n).addr = some (b, off) := by rw [← e2]; exact hg
  obtain ⟨hR, hA⟩ := h.pl n dn hd
  rw [hg] at hA
  obtain ⟨hrows, c, hblk⟩ := hA
  obtain ⟨o', pre, mid, post, F1, F2, F3, ho', hc, hl, hF, hm, hrep⟩ := getP_rel p dn.ty dn.val _ d.val _ _ hget rfl hR
  rw [hof] at ho'
  simp only [Option.some.injEq, Prod.mk.injEq, and_true] at ho'
  subst ho'
  exact ⟨(d, ⟨some (b, off + o), mid, F2⟩) :: obs, ⟨_, _, rfl, ⟨dn, o, b, off, c, pre, post, F1, F3, hd, hget, hg, hblk, hc, hl, hF, rfl, hm, hrep⟩, k1⟩, v, r, _, obs, h1, rfl, ⟨b, off + o, rfl, hv⟩, k2⟩
 | .fno f d :: l, _, ow, _, ho, ⟨v, r, n, p, os', h1, h2, ⟨dn, o, b, off, hd, hget, hof, hg, hv⟩, h4⟩ => by
  subst h2
  obtain ⟨obs, k1, k2⟩ := AR.good2 h l os' ow r (fun x hx => ho x (by simp [hx])) h4
  obtain ⟨e1, e2⟩ := ho (n, p) (by simp)
  have hd : lk n st.pl = some dn := e1.symm.trans hd
  have hg : (G n).addr = some (b, off) := by rw [← e2]; exact hg
  obtain ⟨hR, hA⟩ := h.pl n dn hd
  rw [hg] at hA
  obtain ⟨hrows, c, hblk⟩ := hA
  obtain ⟨o', pre, mid, post, F1, F2, F3, ho', hc, hl, hF, hm, hrep⟩ := getP_rel p dn.ty dn.val _ d.val _ _ hget rfl hR
  rw [hof] at ho'
  simp only [Option.some.injEq, Prod.mk.injEq, and_true] at ho'
  subst ho'
  exact ⟨(d, ⟨some (b, off + o), mid, F2⟩) :: obs, ⟨_, _, rfl, ⟨dn, o, b, off, c, pre, post, F1, F3, hd, hget, hg, hblk, hc, hl, hF, rfl, hm, hrep⟩, k1⟩, v, r, _, obs, h1, rfl, ⟨b, off + o, rfl, hv⟩, k2⟩

theorem AR.noOwn {L : Look} : ∀ (avs : List AV) (os : List (Nat × Path)) (ow : Obs) (vs : List Value), noOwn avs = true → AR w B G L avs os ow vs → ow = []
 | [], _, _, _, _, ⟨_, h2, _⟩ => h2
 | .own _ :: _, _, _, _, h, _ => by cases h
 | .val _ :: l, os, ow, _, h, ⟨_, r, _, _, _, h4⟩ => AR.noOwn l os ow r h h4
 | .ref _ :: l, os, ow, _, h, ⟨_, r, _, _, h4⟩ => AR.noOwn l os ow r h h4
 | .fn _ _ :: l, os, ow, _, h, ⟨_, r, _, _, _, h4⟩ => AR.noOwn l os ow r h h4
 | .obj _ :: l, _, ow, _, h, ⟨_, r, _, _, os', _, _, _, h4⟩ => AR.noOwn l os' ow r h h4
 | .fno _ _ :: l, _, ow, _, h, ⟨_, r, _, _, os', _, _, _, h4⟩ => AR.noOwn l os' ow r h h4

theorem altR_mem : ∀ (l : List Alt) (x : AltT l), (altR l x).1 ∈ l
 | [], x => nomatch x
 | [a], _ => by simp [altR]
 | a :: b :: l, .inl _ => by simp [altR]
 | a :: b :: l, .inr x => by
  show (altR (b :: l) x).1 ∈ a :: b :: l
  exact List.mem_cons_of_mem _ (altR_mem (b :: l) x)

theorem callOp_ok (h : Inv X st a w B G) {Γ : Nat → Option CSem} (hΓ : ∀ f sem, Γ f = some sem → ContractD X.dr X.P f sem) {o : Oper} {f dst : Nat} {fix : Nat → EV → Option EV} (hfix : ∀ i x y, fix i x = some y → (∃ t, x.fix X.P t = some y) ∨ y = x) {es : List EV} {vs : List Value} (hes : EVRL (tv a) w B G (look st) es vs)
  {r : ORes} (he : callOp Γ (look st) dst f fix es = some r) {x : r.α} (hx : r.run = some x) (hrun : (execOp a.eval o).run X.P w = (callFunc f vs.toArray).run X.P w) :
  Does X st a w o (r.out x).ev (r.out x).upd := by
 unfold callOp at he
 obtain ⟨sem, hsem, he⟩ := bind_some he
 obtain ⟨⟨avs, os, U⟩, harg, he⟩ := bind_some he
 obtain ⟨s, hs, he⟩ := bind_some he
 obtain ⟨dv, hdv, he⟩ := bind_some he
 split at he
 ·rename_i hk
  simp only [Bool.and_eq_true, Bool.not_eq_true'] at hk
  obtain ⟨⟨hk1, hk2⟩, hk34⟩ := hk
  obtain rfl := Option.some.inj he
  have hcon := (hΓ f sem hsem).call
  have hx : s.run = some x := hx
  have hcon := hcon avs s hs x hx
  have hk34 := List.all_eq_true.1 hk34 _ (altR_mem s.alts x)
  show Does X st a w o (callRes (look st) dst os (bif lent avs (altR s.alts x).1 then [] else U) (resL (altR s.alts x).1.1 (altR s.alts x).2.1) (objsL (altR s.alts x).1.2 (altR s.alts x).2.2)).ev (callRes (look st) dst os (bif lent avs (altR s.alts x).1 then [] else U) (resL (altR s.alts x).1.1 (altR s.alts x).2.1) (objsL (altR s.alts x).1.2 (altR s.alts x).2.2)).upd
  generalize altR s.alts x = q at hcon hk34
  obtain ⟨⟨res, objs⟩, x⟩ := q
  simp only [Bool.and_eq_true] at hk34
  obtain ⟨hk3, hk4⟩ := hk34
  simp only at hcon hk3 hk4 ⊢
  have hosU : ∀ q ∈ os, q.1 ∉ updNames U := by
   intro q hq hm
   have := List.any_eq_false.1 hk2 q hq
   refine this (List.any_eq_true.2 ⟨q.1, hm, by simp⟩)
  obtain ⟨B1, G1, ow, hI1, hAR, ⟨how, _, _⟩, hB1, hkeep, hEV⟩ := argAll_ok hfix es 0 vs st B G avs os U h hes harg hosU
  have hnodup := nodupN_ok _ hk1
  have hlkos' : ∀ q ∈ os, look (applyU U st) q.1 = look st q.1 := fun q hq => applyU_pl_other U st q.1 (hosU q hq)
  have hfit : objFit (look (applyU U st)) os objs = true := by
   have key : ∀ (os : List (Nat × Path)) (ts : List Ty), (∀ q ∈ os, look (applyU U st) q.1 = look st q.1) → objFit (look (applyU U st)) os ts = objFit (look st) os ts := by
    intro os
    induction os with
    | nil => intro ts _; cases ts <;> rfl
    | cons q os ih =>
     intro ts hq
     cases ts with
     | nil => rfl
     | cons t ts =>
      simp only [objFit, listAt]
      rw [hq q (by simp), ih ts (fun q hq' => hq q (by simp [hq']))]
   rw [key os objs hlkos']; exact hk3
  have hosd : ∀ q ∈ os, ∃ d, lk q.1 st.pl = some d := by
   have key : ∀ (os : List (Nat × Path)) (ts : List Ty), objFit (look st) os ts = true → ∀ q ∈ os, ∃ d, lk q.1 st.pl = some d := by
    intro os
    induction os with
    | nil => intro ts _ q hq; cases hq
    | cons p os ih =>
     intro ts hf q hq
     cases ts with
     | nil => cases hf
     | cons t ts =>
      simp only [objFit, Bool.and_eq_true] at hf
      rcases List.mem_cons.1 hq with rfl | hq
      ·cases hl : look st q.1 with
       | none => have := hf.1; simp [listAt, hl] at this
       | some d => exact ⟨d, hl⟩
      ·exact ih ts hf.2 q hq
   exact key os objs hk3
  have hG1 : ∀ q ∈ os, look (applyU U st) q.1 = look st q.1 ∧ G1 q.1 = G q.1 := fun q hq => by
   obtain ⟨d, hd⟩ := hosd q hq
   obtain ⟨k1, k2⟩ := hkeep q.1 d (hosU q hq) hd
   exact ⟨k1.trans hd.symm, k2⟩
  cases hfl : lent avs (res, objs) with
  | true =>
   simp only [lent, Bool.and_eq_true] at hfl
   obtain ⟨hno, hfl⟩ := hfl
   obtain rfl := hAR.noOwn avs os ow vs hno
   obtain ⟨obs, hgood, hA⟩ := AR.good2 h avs os [] vs hG1 hAR
   have hent : Ent w B1 obs [] := by
    have h0 := GoodL.ent h hgood hnodup (objFit_sz hgood hk3) (OwOk.nil (X := X) (st := st) (w := w) (B := B) (G := G))
    refine ⟨hI1.bsz, fun x hx => ⟨Rel_same (fun _ _ => rfl) hB1 _ _ _ _ (h0.pl x hx).1 (fun _ _ => rfl), (h0.pl x hx).2⟩, h0.addr, h0.own, fun x hx b hb => ?_, h0.nd⟩
    obtain ⟨np, hnp, hgo⟩ := hgood.mem x (by simpa using hx)
    have hb2 := hgo.blocks b hb
    obtain ⟨d, hd⟩ := hosd np hnp
    obtain ⟨e1, e2⟩ := hG1 np hnp
    rw [← e2] at hb2
    exact ((hI1.sep np.1 d (e1.trans hd)).2 b hb2).1
   have hcalls := hcon w B1 obs [] vs hent hA
   intro next Q hnext
   refine hcalls.wp hrun fun v w' he => ?_
   obtain ⟨B', gs, rs, hL⟩ := he
   have hL2 : Lvs X.dr w B obs [] (resL res x.1) (objsL objs x.2) v w' B gs rs := ⟨hL.val, OsRel.flat obs objs x.2 gs hfl.2 hL.obs, RsRel.flat res x.1 rs hfl.1 hL.res, hL.nd,
    fun b hb => ⟨fun hB => (hL.sep b hb).1 (hL.keep b (hB1 b hB)).2, (hL.sep b hb).2⟩, hL.size, hL.rest, fun b hb => ⟨(hL.keep b (hB1 b hb)).1, hb⟩, fun b hb => Nat.lt_of_lt_of_le (h.bsz b hb) hL.size, fun _ _ hb => .inl hb, hL.old, hL.out⟩
   obtain ⟨W, G', hW, hfin, hev⟩ := callFin h dst OwOk.nil hL2 hgood hnodup hk3
   have hout : callRes (look st) dst os [] (resL res x.1) (objsL objs x.2) = ⟨tupOf (backRs dst 0 (resL res x.1)).1, [] ++ (W ++ (backRs dst 0 (resL res x.1)).2)⟩ := by
    unfold callRes
    rw [hW]
   refine hnext v w' B G' ?_ ?_
   ·show Inv X (applyU (callRes (look st) dst os [] (resL res x.1) (objsL objs x.2)).upd st) a w' B G'
    rw [hout]; exact hfin
   ·show EVR (tv a) w' B G' (look (applyU (callRes (look st) dst os [] (resL res x.1) (objsL objs x.2)).upd st)) (callRes (look st) dst os [] (resL res x.1) (objsL objs x.2)).ev v
    rw [hout]; exact hev
  | false =>
   obtain ⟨obs, hgood, hA⟩ := AR.good hI1 avs os ow vs hAR
   have hback : ∀ ds, backOs (look (applyU U st)) os ds = backOs (look st) os ds := by
    have key : ∀ (os : List (Nat × Path)) (ds : List Dyn), (∀ q ∈ os, look (applyU U st) q.1 = look st q.1) → backOs (look (applyU U st)) os ds = backOs (look st) os ds := by
     intro os
     induction os with
     | nil => intro ds _; cases ds <;> rfl
     | cons q os ih =>
      intro ds hq
      cases ds with
      | nil => rfl
      | cons t ds =>
       simp only [backOs]
       rw [hq q (by simp), ih ds (fun q hq' => hq q (by simp [hq']))]
    exact fun ds => key os ds hlkos'
   have hent := GoodL.ent hI1 hgood hnodup (objFit_sz hgood hfit) how
   have hcalls := hcon w B1 obs ow vs hent hA
   intro next Q hnext
   refine hcalls.wp hrun fun v w' he => ?_
   obtain ⟨B', gs, rs, hL⟩ := he
   obtain ⟨W, G', hW, hfin, hev⟩ := callFin hI1 dst how hL hgood hnodup hfit
   rw [← applyU_append] at hfin hev
   have hout : callRes (look st) dst os U (resL res x.1) (objsL objs x.2) = ⟨tupOf (backRs dst 0 (resL res x.1)).1, U ++ (W ++ (backRs dst 0 (resL res x.1)).2)⟩ := by
    unfold callRes
    rw [← hback, hW]
   refine hnext v w' B' G' ?_ ?_
   ·show Inv X (applyU (callRes (look st) dst os U (resL res x.1) (objsL objs x.2)).upd st) a w' B' G'
    rw [hout]; exact hfin
   ·show EVR (tv a) w' B' G' (look (applyU (callRes (look st) dst os U (resL res x.1) (objsL objs x.2)).upd st)) (callRes (look st) dst os U (resL res x.1) (objsL objs x.2)).ev v
    rw [hout]; exact hev
 ·cases he

end
end
end Go.Pv

namespace Go.Pv
noncomputable section
universe u v

section
variable {X : Cx} {st : St} {a : Act} {w : World} {B : Nat → Prop} {G : Nat → PG} {E : Operand → Option EV}

theorem wrap_i64' {n : Int} (h0 : -9223372036854775808 ≤ n) (h1 : n < 9223372036854775808) : IntKind.i64.wrap n = n := by
 simp only [IntKind.wrap, IntKind.signed, IntKind.bits]
 simp
 omega

theorem mkI_some {α : Type} {b : Nat} {l c : Int} {z : α} {xs : List α} (h : mkI b l c z = some xs) : 0 ≤ l ∧ l ≤ c ∧ c * b ≤ 140737488355328 ∧ xs = List.replicate l.toNat z := by
 unfold mkI at h
 split at h
 ·rename_i hh
  exact ⟨hh.1, hh.2.1, hh.2.2, (Option.some.inj h).symm⟩
 ·cases h

theorem flatten_take {α : Type} (l : List α) : ∀ (m n : Nat), m ≤ n → (List.replicate n l).flatten.take (m * l.length) = (List.replicate m l).flatten
 | 0, n, _ => by simp
 | m + 1, 0, h => by omega
 | m + 1, n + 1, h => by
  rw [List.replicate_succ, List.replicate_succ, List.flatten_cons, List.flatten_cons, Nat.add_mul, Nat.one_mul, Nat.add_comm, List.take_append, List.take_of_length_le (by omega), Nat.add_sub_cancel_left, flatten_take l m n (by omega)]

theorem op_makeSlice (h : Inv X st a w B G) (hE : EOk X st a w B G E) {o : Oper} {t : TypeId} {zl zc : Operand} (ho : o.op = .makeSlice t zl zc) {Γ : Nat → Option CSem} {dst : Nat} {r : ORes} (he : evalOp X.P Γ (look st) E dst (.makeSlice t zl zc) o.type = some r) {x : r.α} (hx : r.run = some x) :
  Does X st a w o (r.out x).ev (r.out x).upd := by
 simp only [evalOp] at he
 obtain ⟨el, hel, he⟩ := bind_some he
 obtain ⟨ec, hec, he⟩ := bind_some he
 obtain ⟨⟨kl, l⟩, hl, he⟩ := bind_some he
 obtain ⟨⟨kc, c⟩, hc, he⟩ := bind_some he
 split at he
 ·rename_i e hu
  obtain ⟨z, hz, he⟩ := bind_some he
  split at he
  ·rename_i hk
   simp only [Bool.and_eq_true, Bool.not_eq_true'] at hk
   obtain ⟨⟨⟨hk1, hk2⟩, hk3⟩, hk4⟩ := hk
   obtain rfl := Option.some.inj he
   obtain ⟨l', hl', hx⟩ := bind_some hx
   obtain ⟨c', hc', hx⟩ := bind_some hx
   have hl2 : l = some l' := hl'
   have hc2 : c = some c' := hc'
   subst hl2; subst hc2
   obtain ⟨hlv, hlr⟩ := int?_ok h (hE zl el hel) hl
   obtain ⟨hcv, hcr⟩ := int?_ok h (hE zc ec hec) hc
   obtain ⟨m1, m2, m3, m4⟩ := mkI_some hx
   have hb : 0 < X.P.bytesOf e := by simpa [Nat.blt_eq] using hk4
   obtain ⟨_, zv, hzv, hzR⟩ := zeroD_ok (w := w) (B := B) hz
   obtain ⟨zt, zval⟩ := z
   have hdz : zval = dflt zt := zeroD_dflt hz
   subst hdz
   have h0 : zt.size ≠ 0 := fun e => by simp only at hk3; rw [e] at hk3; simp at hk3
   have hzl := Rel_length w B _ _ _ _ hzR
   have hzl' : zv.cells.size = zt.size := by rw [← hzl]; simp
   obtain ⟨cn, rfl⟩ : ∃ cn : Nat, c' = cn := ⟨c'.toNat, by omega⟩
   obtain ⟨ln, rfl⟩ : ∃ ln : Nat, l' = ln := ⟨l'.toNat, by omega⟩
   have hcb : cn * X.P.bytesOf e ≤ 140737488355328 := by
    have : ((cn * X.P.bytesOf e : Nat) : Int) ≤ 140737488355328 := by rw [Int.natCast_mul]; exact m3
    omega
   have hcn : cn ≤ 140737488355328 := Nat.le_trans (Nat.le_mul_of_pos_right cn hb) hcb
   have hrep : ∀ n, RelL (Rel w B zt) (List.replicate n (dflt zt)) (List.replicate n zv.cells.toList).flatten [] := by
    intro n
    induction n with
    | zero => exact ⟨rfl, rfl⟩
    | succ n ih => exact ⟨_, _, [], [], by rw [List.replicate_succ, List.flatten_cons], rfl, hzR, ih⟩
   let cells : Array Value := (Array.range (cn * zt.size)).map (zv.cells[· % zv.cells.size]!)
   have hcells : cells.toList = (List.replicate cn zv.cells.toList).flatten := by
    have := zeroRow_list zv.cells.toList cn
    rw [← this]
    simp [cells, hzl']
   have hxs : x = List.replicate ln (dflt zt) := m4
   have hxl : List.length (α := T zt) x = ln := by rw [hxs]; simp
   obtain ⟨g, hI2, hev⟩ := h.newRow (nameOf_even dst 0) (e := zt) hk2 (xs := x) (c := cells) (cap := cn) e (by
     rw [hxl, hcells, ← hzl, flatten_take _ ln cn (by omega), hxs]
     exact hrep ln) (by rw [hxl]; omega)
    (by unfold maxLen; omega) (by simp [cells]) { w with heap := w.heap.push (.cells cells e) } rfl (Nat.le_refl _)
   refine Does.value (w' := { w with heap := w.heap.push (.cells cells e) }) (v := .slice (some ⟨w.heap.size, 0, none⟩) ln cn) ?_ hI2 (by rw [← hxl]; exact hev)
   have hzr := run_zero hzv w
   obtain ⟨i, hi, hsz, _⟩ := sizeOk_info hk1
   have hbi : X.P.bytesOf e = i.bytes := by unfold Program.bytesOf; rw [hi]; rfl
   rw [hbi] at hcb
   have hwl : IntKind.i64.wrap (ln : Int) = (ln : Int) := wrap_i64' (by omega) (by omega)
   have hwc : IntKind.i64.wrap (cn : Int) = (cn : Int) := wrap_i64' (by omega) (by omega)
   have hbc : ((i.bytes : Int) * (cn : Int)) ≤ 140737488355328 := by
    rw [Int.mul_comm, ← Int.natCast_mul]; omega
   have ht : ¬ ((cn : Int) < 0) := by omega
   have ht2 : ¬ ((i.bytes : Int) * (cn : Int) > 2 ^ 48) := by
    have : (2 : Int) ^ 48 = 281474976710656 := by decide
    omega
   have hl3 : ¬ ((ln : Int) < 0) := by omega
   have hl4 : ¬ ((ln : Int) > (cn : Int)) := by omega
   have hroom : ¬ (cn * i.bytes > roomBytes) := by
    have : roomBytes = 140737488355328 := by decide
    omega
   have hsz' : i.size = zt.size := hsz
   simp only [execOp, ho, Instr.makeSlice, underlying, Sem.run_bind, run_program, Result.andThen_ok, hu, Sem.run_pure, hlv, hcv, asInt, asIntOf, typeInfo, hi, hwl, hwc, ht, ht2, hl3, hl4, decide_false, Bool.or_self, Bool.false_or, if_false, Bool.false_eq_true, askRoom, Int.toNat_natCast, if_neg hroom, Go.sizeOf, hsz']
   by_cases hn0 : cn * zt.size = 0
   ·have hc0 : cells = #[] := by
     apply Array.eq_empty_of_size_eq_zero
     simp [cells, hn0]
    simp only [hn0, if_true, Sem.run_bind, Sem.run_pure, Result.andThen_ok, Go.newRow, run_newObj, hc0]
    simp [Array.range]
   ·simp only [hn0, if_false, Sem.run_bind, hzr, Sem.run_pure, Result.andThen_ok, Go.newRow, run_newObj]
    rfl
  ·cases he
 ·cases he

end
end
end Go.Pv

namespace Go.Pv
noncomputable section
variable {X : Cx} {st : St} {a : Act} {w : World} {B : Nat → Prop} {G : Nat → PG} {E : Operand → Option EV}

theorem Inv.keepPl (h : Inv X st a w B G) {n : Nat} {d d' : Dyn} (hd : lk n st.pl = some d) (hsk : sk d'.ty = sk d.ty) {w' : World} (hsz : w.heap.size ≤ w'.heap.size)
  (hrest : w'.tape = w.tape ∧ w'.os = w.os ∧ w'.output = w.output ∧ (X.dr = true → w.drawn ≤ w'.drawn)) (hother : ∀ b, b < w.heap.size → b ∉ (G n).F → Same w w' b)
  (hR : Rel w' B d'.ty d'.val (G n).cells (G n).F) : Inv X (applyU [(n, .keep d')] st) a w' B G := by
 obtain ⟨hnd, hsep⟩ := h.sep n d hd
 have hFb : ∀ b ∈ (G n).F, b ∈ (G n).blocks := fun b hb => PG.mem_blocks hb
 have hlk : ∀ m d1, lk m (applyU [(n, .keep d')] st).pl = some d1 → (m = n ∧ d1 = d') ∨ (m ≠ n ∧ lk m st.pl = some d1) := by
  intro m d1 hm
  have hm : lk m (Pv.put n d' st.pl) = some d1 := hm
  rw [lk_put] at hm
  split at hm
  ·rename_i e; exact .inl ⟨e, (Option.some.inj hm).symm⟩
  ·rename_i e; exact .inr ⟨e, hm⟩
 have hBsame : ∀ b, B b → Same w w' b := fun b hb => hother b (h.bsz b hb) (fun hF => (hsep b (hFb b hF)).1 hb)
 have hlt : ∀ m d1, lk m st.pl = some d1 → ∀ b ∈ (G m).blocks, b < w.heap.size := by
  intro m d1 hm b hb
  obtain ⟨hR, hA⟩ := h.pl m d1 hm
  unfold PG.blocks at hb
  cases hg : (G m).addr with
  | none => rw [hg] at hb; exact Rel_lt _ _ _ _ hR _ hb
  | some q =>
   rw [hg] at hb hA
   rcases List.mem_cons.1 hb with hb | hb
   ·obtain ⟨_, c, hc⟩ := hA
    rw [hb]; exact hc.lt
   ·exact Rel_lt _ _ _ _ hR _ hb
 refine h.move [(n, .keep d')] w' B G hsz hrest (fun b hb => ⟨hBsame b hb, hb⟩) (fun b hb => Nat.lt_of_lt_of_le (h.bsz b hb) hsz) (fun _ _ h => .inl h)
  (fun b hb hno => hother b (Nat.lt_of_lt_of_le hb h.size) (fun hF => hno ((hsep b (hFb b hF)).2 hb))) ?_ ?_ (fun _ _ => rfl) ?_ ?_ ?_ (by simp [Upd.isDel])
 ·intro m d1 hm
  rcases hlk m d1 hm with ⟨rfl, rfl⟩ | ⟨hne, hm⟩
  ·refine ⟨⟨hR, ?_⟩, hnd, hsep⟩
   have hA := (h.pl m d hd).2
   split
   ·trivial
   ·rename_i ad hgm
    rw [hgm] at hA
    obtain ⟨k1, c2, k2⟩ := hA
    have hs := hother ad.1 (hlt m d hd ad.1 (by unfold PG.blocks; rw [hgm]; simp)) (fun hF => by
     unfold PG.blocks at hnd
     rw [hgm] at hnd
     exact (List.nodup_cons.1 hnd).1 hF)
    exact ⟨k1.same hs, c2, k2.same hs⟩
  ·obtain ⟨h1, h2⟩ := h.pl m d1 hm
   have hold : ∀ b ∈ (G m).blocks, Same w w' b := fun b hb => hother b (hlt m d1 hm b hb) (fun hF => h.apart m n d1 d hm hd hne b hb (hFb b hF))
   refine ⟨⟨Rel_same hBsame (fun _ h => h) _ _ _ _ h1 (fun b hb => hold b (PG.mem_blocks hb)), ?_⟩, h.sep m d1 hm⟩
   split
   ·trivial
   ·rename_i ad hgm
    rw [hgm] at h2
    obtain ⟨k1, c2, k2⟩ := h2
    have hs := hold ad.1 (by unfold PG.blocks; rw [hgm]; simp)
    exact ⟨k1.same hs, c2, k2.same hs⟩
 ·intro m m' d1 d2 h1 h2 hne
  have e1 : ∃ d, lk m st.pl = some d := by
   rcases hlk m d1 h1 with ⟨rfl, _⟩ | ⟨_, h⟩
   ·exact ⟨d, hd⟩
   ·exact ⟨_, h⟩
  have e2 : ∃ d, lk m' st.pl = some d := by
   rcases hlk m' d2 h2 with ⟨rfl, _⟩ | ⟨_, h⟩
   ·exact ⟨d, hd⟩
   ·exact ⟨_, h⟩
  obtain ⟨x1, e1⟩ := e1
  obtain ⟨x2, e2⟩ := e2
  exact h.apart m m' x1 x2 e1 e2 hne
 ·intro u' hu'
  rw [List.mem_singleton] at hu'
  subst hu'
  exact .inr ⟨rfl, ⟨d, d', hd, by show lk n (Pv.put n _ st.pl) = _; rw [lk_put]; simp, hsk⟩, .inr (.inl rfl)⟩
 ·intro k' d1 hk'
  rcases hlk _ d1 hk' with ⟨e, rfl⟩ | ⟨hne, hm⟩
  ·subst e
   obtain ⟨b1, o1, s, h1, h2, h3⟩ := h.obj k' d hd
   exact ⟨b1, o1, s, h1, h2, by rw [size_of_sk hsk, h3]⟩
  ·exact h.obj k' d1 hm
 ·intro k' b2 o2 s2 ho2 i' _
  obtain ⟨d2, hd2⟩ := h.objL k' b2 o2 s2 ho2
  obtain ⟨b3, o3, s3, h1, h2, _⟩ := h.obj k' d2 hd2
  rw [ho2] at h1
  simp only [Option.some.injEq, Prod.mk.injEq] at h1
  obtain ⟨rfl, rfl, rfl⟩ := h1
  have hb2 : b2 ∈ (G (objName k')).blocks := by unfold PG.blocks; rw [h2]; simp
  refine (hother b2 (hlt _ d2 hd2 b2 hb2) (fun hF => ?_)).cell i'
  by_cases hkn : objName k' = n
  ·rw [hkn] at h2
   unfold PG.blocks at hnd
   rw [h2] at hnd
   exact (List.nodup_cons.1 hnd).1 hF
  ·exact h.apart _ _ d2 d hd2 hd hkn b2 hb2 (hFb b2 hF)

theorem sortOp_ok (h : Inv X st a w B G) {f : Nat} {z : Srt} (hz : SortC X.dr X.P f z) {o : Oper} {es : List EV} {vs : List Value} (hes : EVRL (tv a) w B G (look st) es vs)
  {r : ORes} (he : sortOp (look st) z es = some r) {x : r.α} (hx : r.run = some x) (hrun : (execOp a.eval o).run X.P w = (callFunc f vs.toArray).run X.P w) :
  Does X st a w o (r.out x).ev (r.out x).upd := by
 unfold sortOp at he
 split at he
 ·rename_i n g
  split at he
  ·rename_i hg
   obtain rfl := Nat.eq_of_beq_eq_true hg
   obtain ⟨d, hd, he⟩ := bind_some he
   split at he
   ·rename_i e xs
    split at he
    ·rename_i hee
     obtain ⟨ze, zg, zF⟩ := z
     dsimp only at hee
     subst hee
     obtain rfl := Option.some.inj he
     have hx : zF xs = some x := hx
     simp only [EVRL, EVR] at hes
     obtain ⟨v, _, rfl, ⟨d1, o1, u1, hl1, ho1, hc1, ha1⟩, v2, _, rfl, ⟨cs, rfl, hcs⟩, rfl⟩ := hes
     have hd : lk n st.pl = some ⟨.own e, xs⟩ := hd
     obtain rfl : (⟨.own e, xs⟩ : Dyn) = d1 := Option.some.inj (hd.symm.trans hl1)
     simp only [offP, Option.some.injEq, Prod.mk.injEq] at ho1
     obtain ⟨rfl, rfl⟩ := ho1
     obtain ⟨sv, hsv, hown⟩ := (h.pl n _ hd).1
     obtain ⟨hnd, hsep⟩ := h.sep n _ hd
     have hv : v = sv := by
      have h1 : ((G n).cells.drop 0).take (Ty.own e).size = [sv] := by rw [hsv]; rfl
      rw [h1] at hc1
      exact cells_one hc1 ha1
     subst hv
     obtain rfl : cs = #[] := by
      have : cs.toList = [] := hcs
      simpa using this
     have hrun2 := hz xs x hx w B v (G n).F h.bsz (fun b hb => (hsep b (PG.mem_blocks hb)).1) hown
     intro next Q hnext
     refine hrun2.wp hrun fun r w' hr => ?_
     obtain ⟨rfl, h1, h2, h3, h4⟩ := hr
     refine hnext _ w' B G (h.keepPl hd (d' := ⟨.own e, x⟩) rfl h2 h3 h4 ?_) ?_
     ·exact ⟨v, hsv, h1⟩
     ·show EVR _ _ _ _ _ (.tup []) _
      simp only [EVR]
      exact ⟨#[], rfl, rfl⟩
    ·cases he
   ·cases he
  ·cases he
 ·cases he

theorem payOp_ok (h : Inv X st a w B G) {f : Nat} {at_ : TypeId} (hz : PayC X.P f at_) {o : Oper} {es : List EV} {vs : List Value} (hes : EVRL (tv a) w B G (look st) es vs)
  {r : ORes} (he : payOp X.P (look st) at_ es = some r) {x : r.α} (hx : r.run = some x) (hrun : (execOp a.eval o).run X.P w = (callFunc f vs.toArray).run X.P w) :
  Does X st a w o (r.out x).ev (r.out x).upd := by
 unfold payOp at he
 split at he
 ·rename_i e
  simp only [EVRL] at hes
  obtain ⟨v0, _, rfl, hv, rfl⟩ := hes
  obtain ⟨d, hd, he⟩ := bind_some he
  obtain ⟨r0, hr0, rfl⟩ := Option.map_eq_some_iff.1 he
  have go : ∀ (v : Value) (ev : EV), v0 = .iface at_ v → EVR (tv a) w B G (look st) ev v → Does X st a w o ev [] := by
   rintro v ev rfl hev next Q hnext
   refine (hz w v).wp hrun fun r' w' hr => ?_
   obtain ⟨rfl, rfl⟩ := hr
   exact hnext _ w' B G h hev
  have plain : ∀ (x : r0.α), r0.run = some x → Does X st a w o (r0.out x).ev (r0.out x).upd := fun x hx => by
   obtain ⟨v, h1, h2, h3, _⟩ := assertPay_ok h hv hd hr0 hx
   rw [h2]
   exact go v _ h1 h3
  cases e with
  | alias t p d' =>
   cases p with
   | true => exact plain x hx
   | false =>
    obtain ⟨v, h1, h2, _, h4⟩ := assertPay_ok h hv hd hr0 (x := x) hx
    have hu : ((payRes (.alias t false d') r0).out x).upd = [] := h2
    rw [hu]
    simp only [EVR] at hv
    exact go v _ h1 (h4 t (hv.2.1 trivial))
  | _ => exact plain x hx
 ·cases he

theorem callS_ok (h : Inv X st a w B G) {Γ : Nat → Option CSem} (hΓ : ∀ f sem, Γ f = some sem → ContractD X.dr X.P f sem) {o : Oper} {f dst : Nat} {fix : Nat → EV → Option EV} (hfix : ∀ i x y, fix i x = some y → (∃ t, x.fix X.P t = some y) ∨ y = x) {es : List EV} {vs : List Value}
  (hes : EVRL (tv a) w B G (look st) es vs) {r : ORes} (he : callS X.P Γ (look st) dst f fix es = some r) {x : r.α} (hx : r.run = some x) (hrun : (execOp a.eval o).run X.P w = (callFunc f vs.toArray).run X.P w) :
  Does X st a w o (r.out x).ev (r.out x).upd := by
 unfold callS at he
 split at he
 ·rename_i z hz
  obtain ⟨sem, hs, hz⟩ := bind_some hz
  exact sortOp_ok h ((hΓ f sem hs).sorts z hz) hes he hx hrun
 split at he
 ·rename_i z hz
  obtain ⟨sem, hs, hz⟩ := bind_some hz
  exact payOp_ok h ((hΓ f sem hs).pays z hz) hes he hx hrun
 ·exact callOp_ok h hΓ hfix hes he hx hrun

end
end Go.Pv

namespace Go.Pv
noncomputable section
universe u v

section
variable {X : Cx} {st : St} {a : Act} {w : World} {B : Nat → Prop} {G : Nat → PG}

theorem ambOp_ok (h : Inv X st a w B G) {op : BinOp} {xt : TypeId} {x y : Operand} {ex ey : EV} {vx vy : Value} {r : ORes} {z : r.α}
  (hx : EVR (tv a) w B G (look st) ex vx) (hy : EVR (tv a) w B G (look st) ey vy) (he : ambOp X.P (look st) op xt ex ey (isConst y) = some r) (hz : r.run = some z) :
  ∃ v, (do eqGuard op xt x y vx vy; Go.binOp op xt vx vy : Sem Value).run X.P w = .ok v w ∧ (r.out z).upd = [] ∧ EVR (tv a) w B G (look st) (r.out z).ev v := by
 unfold ambOp at he
 split at he
 ·rename_i e t xs _ hu hrd
  split at he
  ·rename_i hf
   have hc : vy = .slice none 0 0 := by
    cases ey <;> simp only [nilFits] at hf <;> first | (cases hf; done) | skip
    split at hf
    ·rename_i heq; cases heq; simpa only [EVR] using hy
    ·cases hf
   subst hc
   obtain ⟨F, hR, ha⟩ := rd_ok h hx hrd
   obtain ⟨_, sv, hsv, sa, cap, cells, hsv2, hle, _, _, _, _, hsa⟩ := hR
   have hv : vx = .slice sa xs.length cap := (cells_one hsv ha).trans hsv2
   subst hv
   have h1 : (Op.equal xt (.slice sa xs.length cap) (.slice none 0 0)).run X.P w = .ok sa.isNone w := run_eq_slice 9999 hu _ _ _ _ _
   have hg : ∀ op, (eqGuard op xt x y (.slice sa xs.length cap) (.slice none 0 0)).run X.P w = .ok () w := fun op =>
    run_eqGuard_plain op xt x y _ _ (.inl (by simp)) (.inr rfl)
   have hne : xs.isEmpty = false → sa.isNone = false := by
    intro hxs
    cases xs with
    | nil => cases hxs
    | cons q qs =>
     cases sa with
     | none =>
      have hsa : cap = 0 := hsa
      simp at hle
      omega
     | some _ => rfl
   have hb1 : (Go.binOp .eql xt (.slice sa xs.length cap) (.slice none 0 0)).run X.P w = .ok (.bool sa.isNone) w := by
    simp only [Go.binOp, Sem.run_bind, h1, Result.andThen_ok, Sem.run_pure]
   have hb2 : (Go.binOp .neq xt (.slice sa xs.length cap) (.slice none 0 0)).run X.P w = .ok (.bool (!sa.isNone)) w := by
    simp only [Go.binOp, Sem.run_bind, h1, Result.andThen_ok, Sem.run_pure]
   split at he
   ·obtain rfl := Option.some.inj he
    have hz : xs.isEmpty = z := Option.some.inj hz
    refine ⟨_, by simp only [Sem.run_bind, hg, Result.andThen_ok]; exact hb1, rfl, ?_⟩
    cases z with
    | true => simp only [cond_true, EVR]; exact ⟨_, rfl⟩
    | false =>
     rw [hne hz]
     simp only [cond_false, EVR]
     exact ⟨rfl, ⟨rfl, rfl⟩, rfl⟩
   ·obtain rfl := Option.some.inj he
    have hz : xs.isEmpty = z := Option.some.inj hz
    refine ⟨_, by simp only [Sem.run_bind, hg, Result.andThen_ok]; exact hb2, rfl, ?_⟩
    cases z with
    | true => simp only [cond_true, EVR]; exact ⟨_, rfl⟩
    | false =>
     rw [hne hz]
     simp only [cond_false, EVR]
     exact ⟨rfl, ⟨rfl, rfl⟩, rfl⟩
   ·cases he
  ·cases he
 ·cases he

end
end
end Go.Pv

namespace Go.Pv
noncomputable section
universe u v

section
variable {X : Cx} {st : St} {a : Act} {w : World} {B : Nat → Prop} {G : Nat → PG} {E : Operand → Option EV}

theorem isU8_ok {P : Program} {e : TypeId} (h : isU8 P e = true) : P.underlying e = some (.int .u8) := by
 unfold isU8 at h
 split at h
 ·assumption
 ·cases h

theorem RelL_u8 {w : World} {B : Nat → Prop} : ∀ {xs : List Int} {cs : List Value} {F : List Nat}, RelL (Rel w B (.int .u8)) xs cs F → cs = xs.map (Value.int .u8) ∧ ∀ x ∈ xs, inR .u8 x = true
 | [], _, _, h => ⟨h.1, by simp⟩
 | x :: xs, _, _, ⟨c1, c2, F1, F2, rfl, _, ⟨h1, h2, _⟩, h3⟩ => by
  obtain ⟨k1, k2⟩ := RelL_u8 h3
  refine ⟨by rw [h1, k1]; rfl, fun y hy => ?_⟩
  rcases List.mem_cons.1 hy with rfl | hy
  ·exact h2
  ·exact k2 y hy

theorem u8_of {n : Int} (h : inR .u8 n = true) : 0 ≤ n ∧ n < 256 := by
 simp [inR, IntKind.min, IntKind.max, IntKind.signed, IntKind.bits] at h
 omega

theorem bytesOf_strOfNums {xs : List Int} (h : ∀ x ∈ xs, inR .u8 x = true) : bytesOf (strOfNums xs) = xs := by
 unfold bytesOf
 rw [strOfNums_data, List.map_map]
 have : ∀ l : List Int, (∀ x ∈ l, inR .u8 x = true) → l.map ((fun b : UInt8 => (b.toNat : Int)) ∘ fun n => UInt8.ofNat n.toNat) = l := by
  intro l
  induction l with
  | nil => intro _; rfl
  | cons x l ih =>
   intro hl
   have := u8_of (hl x (by simp))
   rw [List.map_cons, ih fun y hy => hl y (by simp [hy])]
   congr 1
   simp only [Function.comp, UInt8.toNat_ofNat']
   omega
 exact this xs h

theorem str_rel {xs : List Int} (h : ∀ x ∈ xs, inR .u8 x = true) (hl : xs.length ≤ maxLen) : EVR (tv a) w B G (look st) (.val ⟨.str, xs⟩) (.string (strOfNums xs)) := by
 simp only [EVR]
 exact ⟨rfl, ⟨_, rfl, bytesOf_strOfNums h, by rw [strOfNums_size]; exact hl, rfl⟩, rfl⟩

theorem op_bytes_str (h : Inv X st a w B G) {o : Oper} {s t e : TypeId} {z : Operand} (ho : o.op = .convert s t z) (hs : X.P.underlying s = some (.slice e)) (he : X.P.underlying e = some (.int .u8)) (ht : X.P.underlying t = some .string) {xs : List Int}
  (hv : (xs = [] ∧ ∃ q c, a.eval z = .slice q 0 c) ∨ ∃ b off cap, a.eval z = .slice (some ⟨b, off, none⟩) xs.length cap ∧ Go.Pv.Rows w b off (xs.map (Value.int .u8)) ∧ xs.length ≤ maxLen ∧ ∀ x ∈ xs, inR .u8 x = true) :
  Does X st a w o (.val ⟨.str, xs⟩) [] := by
 rcases hv with ⟨rfl, q, c, hv⟩ | ⟨b, off, cap, hv, hrow, hl, hx⟩
 ·have hc : (convert s t (.slice q 0 c)).run X.P w = .ok (.string ByteArray.empty) w := by
   cases q with
   | none => exact run_convert_bytes_nil w s e hs he 0 c t ht
   | some ad =>
    rw [run_convert_bytes_string w s t e _ 0 c hs he ht, run_bytesToString w ad 0 c [] (run_loadCells_list w ad [] (by simp))]
    rfl
  refine Does.value (v := .string ByteArray.empty) ?_ h ?_
  ·simp [execOp, ho, hv, hc]
  ·simp only [EVR]
   exact ⟨rfl, ⟨_, rfl, rfl, by decide, rfl⟩, rfl⟩
 ·have hc := run_convert_bytes_arg w s e hs he b off xs.length cap xs rfl (fun i hi => by
   have := hrow i (.int .u8 (xs.getD i 0)) (by simp [List.getElem?_eq_getElem hi, List.getD])
   exact this) t ht
  exact Does.value (v := .string (strOfNums xs)) (by simp [execOp, ho, hv, hc]) h (str_rel hx hl)

theorem op_convert_bs (h : Inv X st a w B G) {o : Oper} {s t e : TypeId} {z : Operand} (ho : o.op = .convert s t z) (hs : X.P.underlying s = some (.slice e)) (he : X.P.underlying e = some (.int .u8)) (ht : X.P.underlying t = some .string) {ev : EV}
  (hv : EVR (tv a) w B G (look st) ev (a.eval z)) {q : ODyn} {r : ORes} (hm : (match q with
     | ⟨.slice (.int .u8), some xs⟩ => some (ORes.just ⟨.val ⟨.str, xs⟩, []⟩)
     | ⟨.own (.int .u8), some xs⟩ => some (ORes.just ⟨.val ⟨.str, xs⟩, []⟩)
     | ⟨.app (.int .u8), some xs⟩ => some (ORes.just ⟨.val ⟨.str, xs⟩, []⟩)
     | ⟨.nils _, some _⟩ => some (ORes.just ⟨.val ⟨.str, []⟩, []⟩)
     | _ => none) = some r) (hr : ev.rd (look st) = some q) (x : r.α) : Does X st a w o (r.out x).ev (r.out x).upd := by
 have sl : ∀ {xs : List Int} {v : Value} {c : Bool}, SlR w B (Ty.int .u8).size (Rel w B (.int .u8)) xs v c → (xs = [] ∧ ∃ q c, v = .slice q 0 c) ∨ ∃ b off cap, v = .slice (some ⟨b, off, none⟩) xs.length cap ∧ Go.Pv.Rows w b off (xs.map (Value.int .u8)) ∧ xs.length ≤ maxLen ∧ ∀ x ∈ xs, inR .u8 x = true := by
  rintro xs v c ⟨sa, cap, cells, h1, h2, h3, h4, h5, h6, h7⟩
  obtain ⟨k1, k2⟩ := RelL_u8 h6
  by_cases hx : xs = []
  ·subst hx; exact .inl ⟨rfl, sa, cap, h1⟩
  ·cases sa with
   | none =>
    have h7 : cap = 0 := h7
    exact absurd (List.eq_nil_of_length_eq_zero (by omega)) hx
   | some ad =>
    rcases h7 with h7 | ⟨k3, k4, k5⟩
    ·exact absurd h7 hx
    ·right
     obtain ⟨b, off, sp⟩ := ad
     have k3 : sp = none := k3
     subst k3
     exact ⟨b, off, cap, h1, by rw [← k1]; exact k5, by omega, k2⟩
 have ow : ∀ {xs : List Int} {v : Value} {F : List Nat}, OwR w (Ty.int .u8).size (Rel w B (.int .u8)) xs v F → (xs = [] ∧ ∃ q c, v = .slice q 0 c) ∨ ∃ b off cap, v = .slice (some ⟨b, off, none⟩) xs.length cap ∧ Go.Pv.Rows w b off (xs.map (Value.int .u8)) ∧ xs.length ≤ maxLen ∧ ∀ x ∈ xs, inR .u8 x = true := by
  rintro xs v F (⟨h1, h2, _⟩ | ⟨b, cap, c, F', h1, h2, h3, h4, h5, h6, _⟩)
  ·exact .inl ⟨h1, none, 0, h2⟩
  ·obtain ⟨k1, k2⟩ := RelL_u8 h6
   refine .inr ⟨b, 0, cap, h1, ?_, by omega, k2⟩
   rw [← k1]
   refine Rows_of_heap h4 fun i v hi => ?_
   rw [List.getElem?_take] at hi
   split at hi
   ·rw [← hi]; simp
   ·cases hi
 split at hm
 ·rename_i xs
  obtain rfl := Option.some.inj hm
  obtain ⟨F, hR, ha⟩ := rd_ok h hv (t := .slice (.int .u8)) (x := xs) (by assumption)
  obtain ⟨_, v, hc, hs'⟩ := hR
  have := cells_one hc ha
  exact op_bytes_str h ho hs he ht (by rw [this]; exact sl hs')
 ·rename_i xs
  obtain rfl := Option.some.inj hm
  obtain ⟨F, hR, ha⟩ := rd_ok h hv (t := .own (.int .u8)) (x := xs) (by assumption)
  obtain ⟨v, hc, hs'⟩ := hR
  have := cells_one hc ha
  exact op_bytes_str h ho hs he ht (by rw [this]; exact ow hs')
 ·rename_i xs
  obtain rfl := Option.some.inj hm
  obtain ⟨F, hR, ha⟩ := rd_ok h hv (t := .app (.int .u8)) (x := xs) (by assumption)
  obtain ⟨v, hc, hs'⟩ := hR
  have := cells_one hc ha
  rcases hs' with hs' | ⟨_, hs'⟩
  ·exact op_bytes_str h ho hs he ht (by rw [this]; exact ow hs')
  ·exact op_bytes_str h ho hs he ht (by rw [this]; exact sl hs')
 ·rename_i e' u
  obtain rfl := Option.some.inj hm
  obtain ⟨F, hR, ha⟩ := rd_ok h hv (t := .nils e') (x := u) (by assumption)
  have := cells_one hR.1 ha
  exact op_bytes_str h ho hs he ht (.inl ⟨rfl, none, 0, this⟩)
 ·cases hm

theorem op_convert_sb (h : Inv X st a w B G) {o : Oper} {s t e : TypeId} {z : Operand} (ho : o.op = .convert s t z) (hs : X.P.underlying s = some .string) (he : X.P.underlying e = some (.int .u8)) (ht : X.P.underlying t = some (.slice e)) {ev : EV}
  (hv : EVR (tv a) w B G (look st) ev (a.eval z)) {xs : List Int} (hr : ev.rd (look st) = some ⟨.str, some xs⟩) (dst : Nat) :
  Does X st a w o (.at_ (nameOf dst 0) []) [(nameOf dst 0, .new ⟨.own (.int .u8), xs⟩)] := by
 obtain ⟨F, ⟨b, hb, hx, hl, _⟩, ha⟩ := rd_ok h hv hr
 have hv2 := cells_one hb ha
 subst hx
 have hc := run_bytes_of_string w s t e b hs ht he
 have hge := grownCap_ge w b.size 0 e
 have hgm := grownCap_le_maxLen w b.size 0 e hl
 have hbl : (bytesOf b).length = b.size := by unfold bytesOf; rw [List.length_map, Array.length_toList]; rfl
 have hrl : (bytesRow b (grownCap w b.size 0 e)).size = grownCap w b.size 0 e := by
  unfold bytesRow
  rw [Array.size_append, Array.size_map, Array.size_replicate]
  have : b.data.size = b.size := rfl
  omega
 obtain ⟨g, hI2, hev⟩ := h.newRowF (nameOf_even dst 0) (e := .int .u8) rfl (xs := bytesOf b) (c := bytesRow b (grownCap w b.size 0 e)) (cap := grownCap w b.size 0 e) e (by
   have htk : (bytesRow b (grownCap w b.size 0 e)).toList.take ((bytesOf b).length * (Ty.int .u8).size) = (bytesOf b).map (Value.int .u8) := by
    have : (bytesRow b (grownCap w b.size 0 e)).toList = (bytesOf b).map (Value.int .u8) ++ List.replicate (grownCap w b.size 0 e - b.size) (.int .u8 0) := by
     simp [bytesRow, bytesOf, Function.comp_def]
    rw [this, show (bytesOf b).length * (Ty.int .u8).size = ((bytesOf b).map (Value.int .u8)).length by simp [Ty.size], List.take_left]
   rw [htk]
   have hin : ∀ x ∈ bytesOf b, inR .u8 x = true := by
    intro x hx
    simp only [bytesOf, List.mem_map] at hx
    obtain ⟨c, _, rfl⟩ := hx
    have := c.toNat_lt
    simp [inR, IntKind.min, IntKind.max, IntKind.signed, IntKind.bits]
    omega
   have key : ∀ l : List Int, (∀ x ∈ l, inR .u8 x = true) → RelL (Rel w B (.int .u8)) l (l.map (Value.int .u8)) [] := by
    intro l
    induction l with
    | nil => intro _; exact ⟨rfl, rfl⟩
    | cons x l ih => intro hl; exact ⟨_, _, [], [], rfl, rfl, ⟨rfl, hl x (by simp), rfl⟩, ih fun y hy => hl y (by simp [hy])⟩
   exact key _ hin) (by rw [hbl]; exact hge) hgm (by rw [hrl]; simp [Ty.size])
  ((bytesRow b (grownCap w b.size 0 e)).size, (bytesRow b (grownCap w b.size 0 e)).size + 1) (fun o ho => by simp; omega)
  (w.drew.alloc (.cells (bytesRow b (grownCap w b.size 0 e)) e ((bytesRow b (grownCap w b.size 0 e)).size, (bytesRow b (grownCap w b.size 0 e)).size + 1))) rfl (Nat.le_succ _)
 refine Does.value (v := .slice (some ⟨w.heap.size, 0, none⟩) b.size (grownCap w b.size 0 e)) ?_ hI2 (by have := hev; rw [hbl] at this; exact this)
 simp [execOp, ho, hv2, hc]

end
end
end Go.Pv

namespace Go.Pv
noncomputable section
universe u v

theorem strB_of (s : ByteArray) : strB (bytesOf s) = s := by
 obtain ⟨⟨l⟩⟩ := s
 unfold strB bytesOf
 congr 1
 simp only [List.map_map]
 have : ((fun v : Int => v.toNat.toUInt8) ∘ fun b : UInt8 => (b.toNat : Int)) = id := by
  funext b
  simp
 rw [this]
 simp

section
variable {X : Cx} {st : St} {a : Act} {w : World} {B : Nat → Prop} {G : Nat → PG} {E : Operand → Option EV}

theorem Inv.newIter (h : Inv X st a w B G) {n : Nat} (hn : n % 2 = 0) {s : ByteArray} (hs : s.size ≤ maxLen) :
  ∃ g, Inv X (applyU [(n, .new ⟨.iter, (bytesOf s, 0)⟩)] st) a (w.iter s 0) B (setG G n g) ∧ EVR (tv a) (w.iter s 0) B (setG G n g) (look (applyU [(n, .new ⟨.iter, (bytesOf s, 0)⟩)] st)) (.at_ n []) (.pointer (some ⟨w.heap.size, 0, none⟩)) := by
 refine ⟨⟨none, [.pointer (some ⟨w.heap.size, 0, none⟩)], [w.heap.size]⟩, ?_, at_new (by simp [Value.cells]) (by simp [Value.cells, Ty.size]) rfl⟩
 have hm : More w (w.iter s 0) := more_push w _
 refine h.newPl hm.size hm.rst (fun b hb _ => hm.same b hb) hn ⟨?_, trivial⟩ (by simp [PG.blocks]) ?_ ?_
 ·exact ⟨w.heap.size, s, rfl, rfl, World.iter_heap w s 0, rfl, hs, Int.le_refl _⟩
 ·intro b hb
  have : b = w.heap.size := by simpa [PG.blocks] using hb
  subst this
  exact ⟨fun hB => Nat.lt_irrefl _ (h.bsz _ hB), fun hlt => absurd (Nat.lt_of_lt_of_le hlt h.size) (Nat.lt_irrefl _)⟩
 ·intro b hb m d' hm
  have : b = w.heap.size := by simpa [PG.blocks] using hb
  subst this
  exact heap_fresh h hm

theorem op_range (h : Inv X st a w B G) (hE : EOk X st a w B G E) {o : Oper} {t : TypeId} {z : Operand} (ho : o.op = .range t z) {Γ : Nat → Option CSem} {dst : Nat} {r : ORes} (he : evalOp X.P Γ (look st) E dst (.range t z) o.type = some r) {x : r.α} (_hx : r.run = some x) :
  Does X st a w o (r.out x).ev (r.out x).upd := by
 simp only [evalOp] at he
 obtain ⟨ez, hez, he⟩ := bind_some he
 obtain ⟨ez', hfz, he⟩ := bind_some he
 have hv := fix_ok (hE z ez hez) hfz
 unfold rangeOp at he
 split at he
 ·rename_i hu
  obtain ⟨d, hd, he⟩ := bind_some he
  split at he
  ·rename_i s
   obtain rfl := Option.some.inj he
   obtain ⟨F, ⟨b, hb, hx, hl, _⟩, ha⟩ := rd_ok h hv hd
   have hv2 := cells_one hb ha
   subst hx
   obtain ⟨g, hI, hev⟩ := h.newIter (nameOf_even dst 0) hl
   refine Does.value (w' := w.iter b 0) (v := .pointer (some ⟨w.heap.size, 0, none⟩)) ?_ hI hev
   simp [execOp, ho, hv2, run_range_string w t b hu]
  ·cases he
 ·cases he

theorem Inv.stepIter (h : Inv X st a w B G) {n : Nat} {y : List Int × Int} (hd : lk n st.pl = some ⟨.iter, y⟩) {b : Nat} {s : ByteArray} (hc : (G n).cells = [.pointer (some ⟨b, 0, none⟩)]) (hF : (G n).F = [b]) (hheap : w.heap[b]? = some (.stringIter s y.2.toNat)) (hs : bytesOf s = y.1) (hsz : s.size ≤ maxLen) (p : Nat) :
  Inv X (applyU [(n, .keep ⟨.iter, (y.1, (p : Int))⟩)] st) a (w.iterAt b s p) B G := by
 obtain ⟨hR, hA⟩ := h.pl n _ hd
 obtain ⟨hnd, hsep⟩ := h.sep n _ hd
 have hbn : b ∈ (G n).blocks := PG.mem_blocks (by rw [hF]; simp)
 have hbB : ¬ B b := (hsep b hbn).1
 have hother : ∀ b', b' ≠ b → Same w (w.iterAt b s p) b' := fun b' hb' => Lib.iterAt_other w b b' s p hb'
 have hBsame : ∀ b', B b' → Same w (w.iterAt b s p) b' := fun b' hb' => hother b' (fun e => hbB (e ▸ hb'))
 have hsz' : (w.iterAt b s p).heap.size = w.heap.size := Lib.iterAt_size w b s p
 have hR' : Rel (w.iterAt b s p) B .iter (y.1, (p : Int)) (G n).cells (G n).F := ⟨b, s, hc, hF, by rw [Int.toNat_natCast]; exact Lib.iterAt_heap w b s _ p hheap, hs, hsz, Int.natCast_nonneg _⟩
 have hlk : ∀ m d', lk m (applyU [(n, .keep ⟨.iter, (y.1, (p : Int))⟩)] st).pl = some d' → (m = n ∧ d' = ⟨.iter, (y.1, (p : Int))⟩) ∨ (m ≠ n ∧ lk m st.pl = some d') := by
  intro m d' hm
  have hm : lk m (Pv.put n (⟨.iter, (y.1, (p : Int))⟩ : Dyn) st.pl) = some d' := hm
  rw [lk_put] at hm
  split at hm
  ·rename_i e; exact .inl ⟨e, (Option.some.inj hm).symm⟩
  ·rename_i e; exact .inr ⟨e, hm⟩
 have haddr : ∀ ad, (G n).addr = some ad → ad.1 ≠ b := by
  intro ad had e
  unfold PG.blocks at hnd
  rw [had] at hnd
  exact (List.nodup_cons.1 hnd).1 (by rw [e, hF]; simp)
 refine h.move [(n, .keep ⟨.iter, (y.1, (p : Int))⟩)] _ B G (by omega) ⟨rfl, rfl, rfl, fun _ => Nat.le_refl _⟩ (fun b' hb' => ⟨hBsame b' hb', hb'⟩) (fun b' hb' => by rw [hsz']; exact h.bsz b' hb') (fun _ _ h => .inl h)
  (fun b' hb' hno => hother b' (fun e => hno (e ▸ (hsep b hbn).2 (e ▸ hb')))) ?_ ?_ (fun _ _ => rfl) ?_ ?_ ?_ (by simp [Upd.isDel])
 ·intro m d' hm
  rcases hlk m d' hm with ⟨rfl, rfl⟩ | ⟨hne, hm⟩
  ·refine ⟨⟨hR', ?_⟩, hnd, hsep⟩
   split
   ·trivial
   ·rename_i ad hgm
    rw [hgm] at hA
    obtain ⟨k1, c2, k2⟩ := hA
    have hne2 := hother ad.1 (haddr ad hgm)
    exact ⟨k1.same hne2, c2, k2.same hne2⟩
  ·obtain ⟨h1, h2⟩ := h.pl m d' hm
   have hmb : ∀ b' ∈ (G m).blocks, b' ≠ b := fun b' hb' e => h.apart m n d' _ hm hd hne b' hb' (e ▸ hbn)
   refine ⟨⟨Rel_same hBsame (fun _ h => h) _ _ _ _ h1 (fun b' hb' => hother b' (hmb b' (PG.mem_blocks hb'))), ?_⟩, h.sep m d' hm⟩
   split
   ·trivial
   ·rename_i ad hgm
    rw [hgm] at h2
    obtain ⟨k1, c2, k2⟩ := h2
    have hne2 := hother ad.1 (hmb ad.1 (by unfold PG.blocks; rw [hgm]; simp))
    exact ⟨k1.same hne2, c2, k2.same hne2⟩
 ·intro m m' d1 d2 h1 h2 hne
  have e1 : ∃ d, lk m st.pl = some d := by
   rcases hlk m d1 h1 with ⟨rfl, _⟩ | ⟨_, h⟩
   ·exact ⟨_, hd⟩
   ·exact ⟨_, h⟩
  have e2 : ∃ d, lk m' st.pl = some d := by
   rcases hlk m' d2 h2 with ⟨rfl, _⟩ | ⟨_, h⟩
   ·exact ⟨_, hd⟩
   ·exact ⟨_, h⟩
  obtain ⟨x1, e1⟩ := e1
  obtain ⟨x2, e2⟩ := e2
  exact h.apart m m' x1 x2 e1 e2 hne
 ·intro u' hu'
  rw [List.mem_singleton] at hu'
  subst hu'
  exact .inr ⟨rfl, ⟨_, ⟨.iter, (y.1, (p : Int))⟩, hd, by show lk n (Pv.put n _ st.pl) = _; rw [lk_put]; simp, rfl⟩, .inr (.inl rfl)⟩
 ·intro k' d' hk'
  rcases hlk _ d' hk' with ⟨e, rfl⟩ | ⟨hne, hm⟩
  ·subst e
   obtain ⟨b1, o1, s1, h1, h2, h3⟩ := h.obj k' _ hd
   exact ⟨b1, o1, s1, h1, h2, h3⟩
  ·exact h.obj k' d' hm
 ·intro k' b2 o2 s2 ho2 i' _
  refine (hother b2 ?_).cell i'
  intro e
  subst e
  obtain ⟨d2, hd2⟩ := h.objL k' b2 o2 s2 ho2
  obtain ⟨b3, o3, s3, h1, h2, _⟩ := h.obj k' d2 hd2
  rw [ho2] at h1
  simp only [Option.some.injEq, Prod.mk.injEq] at h1
  obtain ⟨rfl, rfl, rfl⟩ := h1
  by_cases hkn : objName k' = n
  ·rw [hkn] at h2
   exact haddr _ h2 rfl
  ·exact h.apart _ _ d2 _ hd2 hd hkn b2 (by unfold PG.blocks; rw [h2]; simp) hbn

theorem op_next (h : Inv X st a w B G) (hE : EOk X st a w B G E) {o : Oper} {z : Operand} (ho : o.op = .next z true) {Γ : Nat → Option CSem} {dst : Nat} {r : ORes} (he : evalOp X.P Γ (look st) E dst (.next z true) o.type = some r) {x : r.α} (hx : r.run = some x) :
  Does X st a w o (r.out x).ev (r.out x).upd := by
 simp only [evalOp] at he
 obtain ⟨ez, hez, he⟩ := bind_some he
 have hv := hE z ez hez
 unfold nextOp at he
 split at he
 ·rename_i n
  obtain ⟨d, hd, he⟩ := bind_some he
  split at he
  ·rename_i y
   obtain rfl := Option.some.inj he
   obtain rfl := Option.some.inj hx
   have hd : lk n st.pl = some ⟨.iter, y⟩ := hd
   obtain ⟨⟨b, s, hc, hF, hheap, hs, hsz, hy0⟩, hA⟩ := h.pl n _ hd
   have hy0 : 0 ≤ y.2 := hy0
   have hlen : s.size = y.1.length := by rw [← hs]; exact (bytesOf_length s).symm
   have hval : a.eval z = .pointer (some ⟨b, 0, none⟩) := by
    simp only [EVR] at hv
    obtain ⟨d1, o1, u1, hd1, ho1, hcl, ha⟩ := hv
    have hd1 : lk n st.pl = some d1 := hd1
    rw [hd] at hd1
    obtain rfl := Option.some.inj hd1
    simp only [offP, Option.some.injEq, Prod.mk.injEq] at ho1
    obtain ⟨rfl, rfl⟩ := ho1
    rw [hc] at hcl
    exact cells_one (by simpa [Ty.size] using hcl) ha
   show Does X st a w o (nextOut n y (nextS y)).ev (nextOut n y (nextS y)).upd
   unfold nextS
   by_cases hlt : y.2 < (y.1.length : Int)
   ·rw [if_pos hlt]
    have hpos : y.2.toNat < s.size := by omega
    have hrun := Lib.run_next_any_at (P := X.P) w b s y.2.toNat o.type hheap hpos
    have hmx : maxLen ≤ 9223372036854775807 := by decide
    have hI := h.stepIter hd hc hF hheap hs hsz (y.2.toNat + (Utf8.decode s y.2.toNat).2)
    have hrune : runeAt y.1 y.2 = (((Utf8.decode s y.2.toNat).1 : Int), ((Utf8.decode s y.2.toNat).2 : Int)) := by
     unfold runeAt
     rw [← hs, strB_of]
    have hp : ((y.2.toNat + (Utf8.decode s y.2.toNat).2 : Nat) : Int) = y.2 + (runeAt y.1 y.2).2 := by
     rw [hrune]
     show ((y.2.toNat + (Utf8.decode s y.2.toNat).2 : Nat) : Int) = y.2 + ((Utf8.decode s y.2.toNat).2 : Int)
     omega
    rw [hp] at hI
    refine Does.value (w' := w.iterAt b s (y.2.toNat + (Utf8.decode s y.2.toNat).2)) (v := .tuple #[.bool true, .int .i64 y.2.toNat, .int .i32 (Utf8.decode s y.2.toNat).1]) ?_ hI ?_
    ·simp [execOp, ho, hval, hrun]
    ·have h1 : ((y.2.toNat : Nat) : Int) = y.2 := by omega
     have h2 := decode_le s y.2.toNat
     refine ⟨_, rfl, _, _, rfl, ⟨rfl, ⟨rfl, rfl⟩, rfl⟩, _, _, rfl, ⟨rfl, ⟨by rw [h1]; rfl, ?_, rfl⟩, rfl⟩, _, _, rfl, ⟨rfl, ⟨by rw [hrune]; rfl, ?_, rfl⟩, rfl⟩, rfl⟩
     ·show inR .i64 y.2 = true
      simp [inR, IntKind.min, IntKind.max, IntKind.signed, IntKind.bits]
      omega
     ·rw [hrune]
      show inR .i32 ((Utf8.decode s y.2.toNat).1 : Int) = true
      simp [inR, IntKind.min, IntKind.max, IntKind.signed, IntKind.bits]
      omega
   ·rw [if_neg hlt]
    have hpos : ¬ y.2.toNat < s.size := by omega
    have hrun := Lib.run_next_end_at (P := X.P) w b s y.2.toNat o.type hheap hpos
    refine Does.value (w' := w) (v := .tuple #[.bool false]) ?_ h ⟨_, rfl, _, _, rfl, ⟨rfl, ⟨rfl, rfl⟩, rfl⟩, rfl⟩
    simp [execOp, ho, hval, hrun]
  ·cases he
 ·cases he

end
end
end Go.Pv

namespace Go.Pv
noncomputable section
universe u v

section
variable {X : Cx} {st : St} {a : Act} {w : World} {B : Nat → Prop} {G : Nat → PG} {E : Operand → Option EV}

theorem method_run {P : Program} {u : TypeId} {name : String} {f : Nat} (h : methodOf P u name = some f) (v : Value) (w : World) : (method (P.types.size + Made.depth) u v name).run P w = .ok (f, v) w := by
 unfold methodOf at h
 obtain ⟨i, hi, h⟩ := bind_some h
 obtain ⟨m, hm, h⟩ := bind_some h
 have hpos : 0 < Made.depth := by decide
 obtain ⟨n, hn⟩ : ∃ n, P.types.size + Made.depth = n + 1 := ⟨P.types.size + Made.depth - 1, by omega⟩
 rw [hn]
 split at h
 ·rename_i f' pr e hp hf hu
  split at h
  ·rename_i hpr
   obtain rfl := Option.some.inj h
   simp only [method, typeInfo, Sem.run_bind, run_program, Result.andThen_ok, hi, Sem.run_pure, hm, hp, follow, hf, receiverAt, underlying, hu, hpr, Place.get]
  ·cases h
 ·rename_i f' pr d hne hp hf hu
  split at h
  ·cases h
  ·rename_i hpr
   obtain rfl := Option.some.inj h
   have hpr : pr = false := by simpa using hpr
   have hne : ∀ e, d ≠ .pointer e := fun e he => hne e he
   simp only [method, typeInfo, Sem.run_bind, run_program, Result.andThen_ok, hi, Sem.run_pure, hm, hp, follow, hf, receiverAt, underlying, hu, hpr, Place.get]
 ·cases h

theorem invRun_ok {P : Program} {Γ : Nat → Option CSem} {name : String} {A : List Alt} : ∀ (t : Ty) (x : T t) (r : AltT A), invRun P Γ name A t x = some r → ∀ v F, Rel w B t x [v] F →
  ∃ (u : TypeId) (v' : Value) (s : Ty) (y : T s) (f : Nat) (sem : CSem) (sr : SRes) (he : sr.alts = A), v = .iface u v' ∧ s.pure = true ∧ VR w B s y v' [] ∧ methodOf P u name = some f ∧ Γ f = some sem ∧ sem.own 0 = false ∧ sem.run [.val ⟨s, y⟩] = some sr ∧ (he ▸ sr.run) = some r
 | .alt u t q, .inl y, r, h, v, F, hR => by
  simp only [invRun] at h
  split at h
  ·rename_i hp
   obtain ⟨sr, hs, h⟩ := bind_some h
   split at h
   ·rename_i he
    unfold invSem at hs
    obtain ⟨f, hf, hs⟩ := bind_some hs
    obtain ⟨sem, hsem, hs⟩ := bind_some hs
    split at hs
    ·cases hs
    ·rename_i hown
     obtain ⟨_, v', hv, h1, h2⟩ := hR
     obtain rfl : v = .iface u v' := by simpa using hv
     exact ⟨u, v', t, y, f, sem, sr, he, rfl, hp, ⟨h1, h2⟩, hf, hsem, by simpa using hown, hs, h⟩
   ·cases h
  ·cases h
 | .alt u t q, .inr y, r, h, v, F, hR => by
  simp only [invRun] at h
  exact invRun_ok q y r h v [] hR.2.1
 | .int _, _, _, h, _, _, _ | .bool, _, _, h, _, _, _ | .str, _, _, h, _, _, _ | .unit, _, _, h, _, _, _ | .pair _ _, _, _, h, _, _, _ | .agg _, _, _, h, _, _, _ | .arr _ _, _, _, h, _, _, _ | .slice _, _, _, h, _, _, _ | .app _, _, _, h, _, _, _ | .own _, _, _, h, _, _, _ | .junk, _, _, h, _, _, _ | .ptr _, _, _, h, _, _, _ | .box _, _, _, h, _, _, _ | .nils _, _, _, h, _, _, _ | .nilp, _, _, h, _, _, _ | .nili, _, _, h, _, _, _ | .iter, _, _, h, _, _, _ => by simp [invRun] at h

theorem op_invoke (h : Inv X st a w B G) (hE : EOk X st a w B G E) {Γ : Nat → Option CSem} (hΓ : ∀ f sem, Γ f = some sem → ContractD X.dr X.P f sem) {o : Oper} {c : Call} {z : Operand} {name : String} {dst : Nat} (ho : o.op = .call c) (hc : c.callee = .invoke z name) (hargs : c.args = #[]) {r : ORes}
  (he : ((E z).bind fun x => (x.rd (look st)).bind fun d => invOp X.P Γ (look st) dst name d) = some r) {x : r.α} (hx : r.run = some x) :
  Does X st a w o (r.out x).ev (r.out x).upd := by
 obtain ⟨ez, hez, he⟩ := bind_some he
 obtain ⟨⟨ty, ov⟩, hd, he⟩ := bind_some he
 unfold invOp at he
 obtain ⟨A, hA, he⟩ := bind_some he
 obtain ⟨dv, hdv, he⟩ := bind_some he
 split at he
 ·rename_i hk
  obtain rfl := Option.some.inj he
  change (ov.bind fun x => invRun X.P Γ name A ty x) = some x at hx
  obtain ⟨xv, hxv, hx⟩ := bind_some hx
  subst hxv
  have hsh : ty.isAgg = false ∧ ty.size = 1 := by cases ty <;> first | exact ⟨rfl, rfl⟩ | (cases hA)
  obtain ⟨F, hR⟩ := rd_ok h (hE z ez hez) hd
  have hR := (hR.one hsh.1 hsh.2).2
  obtain ⟨u, v', s, y, f, sem, sr, hsr, hv, hp, hvr, hm, hsem, hown, hrun, hres⟩ := invRun_ok ty xv x hx _ F hR
  subst hsr
  have hcall : callOp Γ (look st) dst f (fun _ e => some e) [.val ⟨s, y⟩] = some { α := AltT sr.alts, run := sr.run, dflt := dv, out := fun x => callRes (look st) dst [] (bif lent [.val ⟨s, y⟩] (altR sr.alts x).1 then [] else []) (resL (altR sr.alts x).1.1 (altR sr.alts x).2.1) (objsL (altR sr.alts x).1.2 (altR sr.alts x).2.2), spl := altSpl sr.alts } := by
   unfold callOp
   have harg : argAll (look st) sem.own (fun _ e => some e) 0 [.val ⟨s, y⟩] = some ([.val ⟨s, y⟩], [], []) := by
    simp only [argAll, Option.bind_some, EV.arg, hown, cond_false, EV.arg0, EV.take, Option.map_some]
    rfl
   rw [hsem, Option.bind_some, harg, Option.bind_some]
   simp only [hrun, Option.bind_some, hdv]
   rw [if_pos]
   rw [hk]
   rfl
  have hfin := callOp_ok h hΓ (o := o) (f := f) (fix := fun _ e => some e) (es := [.val ⟨s, y⟩]) (vs := [v']) (fun i x y hxy => .inr (Option.some.inj hxy).symm) (by simp only [EVRL, EVR]; exact ⟨v', [], rfl, ⟨hp, hvr⟩, rfl⟩) hcall (x := x) hres (by
   have hz : a.eval z = .iface u v' := hv
   simp only [execOp, ho, resolve, hc, hargs, hz, invoke, callMethod, Sem.run_bind, run_program, Result.andThen_ok, Sem.run_pure]
   simp [method_run hm])
  have hb : ∀ b : Bool, (bif b then ([] : Upds) else []) = [] := fun b => by cases b <;> rfl
  simp only [hb] at hfin
  exact hfin
 ·cases he

end
end
end Go.Pv
