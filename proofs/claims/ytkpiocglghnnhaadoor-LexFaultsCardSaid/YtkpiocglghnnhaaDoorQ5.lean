/- A plain run of Go code, and that the machine does what it says. -/
import Derived.Laws.Externs
import Derived.ProofKit
import Derived.SizedLaws
import Derived.Test.YtkpiocglghnnhaaDoorQ4

set_option linter.unusedSimpArgs false
set_option linter.unusedVariables false

namespace Go.Pv
noncomputable section
universe u v

section
variable {w : World} {B : Nat → Prop}

def entG (os ow : Obs) : Nat → PG := fun n => if n % 2 = 1 then (match os[n / 2]? with | some x => x.2 | none => ⟨none, [], []⟩) else (match ow[n / 32]? with | some x => x.2 | none => ⟨none, [], []⟩)

theorem entG_obj {os ow : Obs} {k : Nat} {x : Dyn × PG} (h : os[k]? = some x) : entG os ow (objName k) = x.2 := by
 unfold entG objName
 rw [if_pos (by omega), show (2 * k + 1) / 2 = k by omega, h]

theorem entG_own {os ow : Obs} {j : Nat} {x : Dyn × PG} (h : ow[j]? = some x) : entG os ow (wName j) = x.2 := by
 unfold entG wName
 rw [if_neg (by omega), show 2 * (16 * j + 14) / 32 = j by omega, h]

theorem entP_names : ∀ (l : List AK) (k j : Nat) (x : ArgT l) (n : Nat) (d : Dyn), lk n (entP k j l x) = some d → (∃ k', k ≤ k' ∧ n = objName k') ∨ ∃ j', j ≤ j' ∧ n = wName j'
 | [], _, _, _, _, _, h => by simp [entP, lk] at h
 | .val _ :: l, k, j, x, n, d, h => entP_names l k j x.2 n d h
 | .ref _ :: l, k, j, x, n, d, h => entP_names l k j x.2 n d h
 | .fnc _ :: l, k, j, x, n, d, h => entP_names l k j x n d h
 | .obj t :: l, k, j, x, n, d, h => by
  simp only [entP, lk] at h
  by_cases e : n = objName k
  ·exact .inl ⟨k, Nat.le_refl _, e⟩
  ·rw [beq_ne e] at h
   rcases entP_names l (k + 1) j x.2 n d h with ⟨k', h1, h2⟩ | h
   ·exact .inl ⟨k', by omega, h2⟩
   ·exact .inr h
 | .fno _ t :: l, k, j, x, n, d, h => by
  simp only [entP, lk] at h
  by_cases e : n = objName k
  ·exact .inl ⟨k, Nat.le_refl _, e⟩
  ·rw [beq_ne e] at h
   rcases entP_names l (k + 1) j x.2 n d h with ⟨k', h1, h2⟩ | h
   ·exact .inl ⟨k', by omega, h2⟩
   ·exact .inr h
 | .own t :: l, k, j, x, n, d, h => by
  simp only [entP, lk] at h
  by_cases e : n = wName j
  ·exact .inr ⟨j, Nat.le_refl _, e⟩
  ·rw [beq_ne e] at h
   rcases entP_names l k (j + 1) x.2 n d h with h | ⟨j', h1, h2⟩
   ·exact .inl h
   ·exact .inr ⟨j', by omega, h2⟩

theorem matchArgs_ok : ∀ (l : List AK) (avs : List AV) (x : ArgT l), matchArgs l avs = some x → ∀ (os ow : Obs) (vs : List Value), ARel w B avs os ow vs → (∀ y ∈ ow, PlR w B y.2 y.1) →
  vs.length = l.length ∧ os.length = nObj l ∧
  ∀ (i0 k0 j0 : Nat) (tv : Nat → Value) (G : Nat → PG) (L : Look), (∀ i v, vs[i]? = some v → tv (i0 + i) = v) → (∀ k y, os[k]? = some y → G (objName (k0 + k)) = y.2) → (∀ j y, ow[j]? = some y → G (wName (j0 + j)) = y.2) → (∀ n d, lk n (entP k0 j0 l x) = some d → L n = some d) →
   (∀ t e, lk t (entE i0 k0 j0 l x) = some e → i0 ≤ t ∧ EVR tv w B G L e (tv t)) ∧
   (∀ n d, lk n (entP k0 j0 l x) = some d → (∃ k y, n = objName (k0 + k) ∧ os[k]? = some y ∧ d.ty.size = y.1.ty.size ∧ (PlR w B y.2 y.1 → PlR w B y.2 d)) ∨ ∃ j y, n = wName (j0 + j) ∧ ow[j]? = some y ∧ (PlR w B y.2 y.1 → PlR w B y.2 d)) ∧
   (∀ k, k < nObj l → ∃ d, lk (objName (k0 + k)) (entP k0 j0 l x) = some d)
 | [], [], x, _, os, ow, vs, ⟨h1, h2, h3⟩, _ => by
  subst h1; subst h2; subst h3
  exact ⟨rfl, rfl, fun i0 k0 j0 tv G L _ _ _ _ => ⟨fun t e h => by simp [entE, lk] at h, fun n d h => by simp [entP, lk] at h, fun k h => by simp [nObj] at h⟩⟩
 | .val t :: l, .val d :: r, x, hm, os, ow, _, ⟨v, rv, rfl, hp, hv, hA⟩, how => by
  simp only [matchArgs] at hm
  split at hm
  ·rename_i hpt
   obtain ⟨f, hf, hm⟩ := bind_some hm
   obtain ⟨z, hz, rfl⟩ := Option.map_eq_some_iff.1 hm
   obtain ⟨h1, h2, h3⟩ := matchArgs_ok l r z hz os ow rv hA how
   refine ⟨by simp [h1], h2, fun i0 k0 j0 tv G L htv hG hW hL => ?_⟩
   obtain ⟨k1, k2, k3⟩ := h3 (i0 + 1) k0 j0 tv G L (fun i u hu => by rw [Nat.add_assoc, Nat.add_comm 1 i]; exact htv (i + 1) u (by simpa using hu)) hG hW hL
   refine ⟨fun s e he => ?_, k2, k3⟩
   simp only [entE, lk] at he
   by_cases es : s = i0
   ·subst es
    simp only [Nat.beq_refl, cond_true, Option.some.injEq] at he
    subst he
    have := htv 0 v rfl
    rw [Nat.add_zero] at this
    simp only [EVR]
    rw [this]
    exact ⟨Nat.le_refl _, hpt, cv_rel d.ty t f hf d.val _ _ hv.1, by rw [hv.2]; exact cv_agg d.ty t f hf⟩
   ·rw [beq_ne es] at he
    obtain ⟨m1, m2⟩ := k1 s e he
    exact ⟨by omega, m2⟩
  ·cases hm
 | .ref t :: l, .ref d :: r, x, hm, os, ow, _, ⟨v, rv, rfl, ⟨hp, b, o, cells, e1, e2, e3, e4⟩, hA⟩, how => by
  simp only [matchArgs] at hm
  split at hm
  ·rename_i hpt
   obtain ⟨f, hf, hm⟩ := bind_some hm
   obtain ⟨z, hz, rfl⟩ := Option.map_eq_some_iff.1 hm
   obtain ⟨h1, h2, h3⟩ := matchArgs_ok l r z hz os ow rv hA how
   refine ⟨by simp [h1], h2, fun i0 k0 j0 tv G L htv hG hW hL => ?_⟩
   obtain ⟨k1, k2, k3⟩ := h3 (i0 + 1) k0 j0 tv G L (fun i u hu => by rw [Nat.add_assoc, Nat.add_comm 1 i]; exact htv (i + 1) u (by simpa using hu)) hG hW hL
   refine ⟨fun s e he => ?_, k2, k3⟩
   simp only [entE, lk] at he
   by_cases es : s = i0
   ·subst es
    simp only [Nat.beq_refl, cond_true, Option.some.injEq] at he
    subst he
    have := htv 0 v rfl
    rw [Nat.add_zero] at this
    simp only [EVR]
    rw [this]
    exact ⟨Nat.le_refl _, hpt, b, o, cells, e1, e2, e3, cv_rel d.ty t f hf d.val _ _ e4⟩
   ·rw [beq_ne es] at he
    obtain ⟨m1, m2⟩ := k1 s e he
    exact ⟨by omega, m2⟩
  ·cases hm
 | .fnc f :: l, .fn g [] :: r, x, hm, os, ow, _, ⟨v, rv, rfl, _, hv, hA⟩, how => by
  simp only [matchArgs] at hm
  split at hm
  ·rename_i hfg
   obtain rfl := Nat.eq_of_beq_eq_true hfg
   obtain ⟨h1, h2, h3⟩ := matchArgs_ok l r x hm os ow rv hA how
   refine ⟨by simp [h1], h2, fun i0 k0 j0 tv G L htv hG hW hL => ?_⟩
   obtain ⟨k1, k2, k3⟩ := h3 (i0 + 1) k0 j0 tv G L (fun i u hu => by rw [Nat.add_assoc, Nat.add_comm 1 i]; exact htv (i + 1) u (by simpa using hu)) hG hW hL
   refine ⟨fun s e he => ?_, k2, k3⟩
   simp only [entE, lk] at he
   by_cases es : s = i0
   ·subst es
    simp only [Nat.beq_refl, cond_true, Option.some.injEq] at he
    subst he
    have := htv 0 v rfl
    rw [Nat.add_zero] at this
    simp only [EVR, EVRL]
    rw [this]
    exact ⟨Nat.le_refl _, #[], hv, rfl⟩
   ·rw [beq_ne es] at he
    obtain ⟨m1, m2⟩ := k1 s e he
    exact ⟨by omega, m2⟩
  ·cases hm
 | .obj t :: l, .obj d :: r, x, hm, _, ow, _, ⟨v, rv, g, os', rfl, rfl, ⟨b, o, hg, hv⟩, hA⟩, how => by
  simp only [matchArgs] at hm
  split at hm
  ·rename_i hsk
   obtain ⟨f, hf, hm⟩ := bind_some hm
   obtain ⟨z, hz, rfl⟩ := Option.map_eq_some_iff.1 hm
   obtain ⟨h1, h2, h3⟩ := matchArgs_ok l r z hz os' ow rv hA how
   refine ⟨by simp [h1], by simp [h2, nObj], fun i0 k0 j0 tv G L htv hG hW hL => ?_⟩
   obtain ⟨k1, k2, k3⟩ := h3 (i0 + 1) (k0 + 1) j0 tv G L (fun i u hu => by rw [Nat.add_assoc, Nat.add_comm 1 i]; exact htv (i + 1) u (by simpa using hu))
    (fun k y hy => by rw [Nat.add_assoc, Nat.add_comm 1 k]; exact hG (k + 1) y (by simpa using hy)) hW
    (fun n d' hd' => hL n d' (by
     simp only [entP, lk]
     have hne : n ≠ objName k0 := by
      rcases entP_names l (k0 + 1) j0 z n d' hd' with ⟨k', q1, q2⟩ | ⟨j', q1, q2⟩ <;> (rw [q2]; unfold objName; try unfold wName) <;> omega
     rw [beq_ne hne]; exact hd'))
   have hL0 := hL (objName k0) ⟨t, f d.val⟩ (by simp [entP, lk])
   have hG0 := hG 0 (d, g) rfl
   rw [Nat.add_zero] at hG0
   refine ⟨fun s e he => ?_, fun n d' hd' => ?_, fun k hk => ?_⟩
   ·simp only [entE, lk] at he
    by_cases es : s = i0
    ·subst es
     simp only [Nat.beq_refl, cond_true, Option.some.injEq] at he
     subst he
     have := htv 0 v rfl
     rw [Nat.add_zero] at this
     simp only [EVR]
     rw [this]
     exact ⟨Nat.le_refl _, _, 0, _, b, o, hL0, rfl, by rw [hG0]; exact hg, hv⟩
    ·rw [beq_ne es] at he
     obtain ⟨m1, m2⟩ := k1 s e he
     exact ⟨by omega, m2⟩
   ·simp only [entP, lk] at hd'
    by_cases e : n = objName k0
    ·subst e
     simp only [Nat.beq_refl, cond_true, Option.some.injEq] at hd'
     subst hd'
     exact .inl ⟨0, (d, g), rfl, rfl, (size_of_sk hsk).symm, fun hp => ⟨cv_rel d.ty t f hf d.val _ _ hp.1, hp.2⟩⟩
    ·rw [beq_ne e] at hd'
     rcases k2 n d' hd' with ⟨k, y, m1, m2, m3⟩ | h
     ·exact .inl ⟨k + 1, y, by rw [m1]; congr 1; omega, by simpa using m2, m3⟩
     ·exact .inr h
   ·simp only [entP, lk]
    cases k with
    | zero => exact ⟨_, by rw [Nat.add_zero, Nat.beq_refl]; rfl⟩
    | succ k =>
     obtain ⟨d', hd'⟩ := k3 k (by simp only [nObj] at hk; omega)
     refine ⟨d', ?_⟩
     rw [beq_ne (by unfold objName; omega), show k0 + (k + 1) = k0 + 1 + k by omega]
     exact hd'
  ·cases hm
 | .fno f0 t :: l, .fno g0 d :: r, x, hm, _, ow, _, ⟨v, rv, g, os', rfl, rfl, ⟨b, o, hg, hv⟩, hA⟩, how => by
  simp only [matchArgs] at hm
  split at hm
  ·rename_i hsk
   obtain ⟨hfg, hsk⟩ := hsk
   obtain rfl := Nat.eq_of_beq_eq_true hfg
   obtain ⟨f, hf, hm⟩ := bind_some hm
   obtain ⟨z, hz, rfl⟩ := Option.map_eq_some_iff.1 hm
   obtain ⟨h1, h2, h3⟩ := matchArgs_ok l r z hz os' ow rv hA how
   refine ⟨by simp [h1], by simp [h2, nObj], fun i0 k0 j0 tv G L htv hG hW hL => ?_⟩
   obtain ⟨k1, k2, k3⟩ := h3 (i0 + 1) (k0 + 1) j0 tv G L (fun i u hu => by rw [Nat.add_assoc, Nat.add_comm 1 i]; exact htv (i + 1) u (by simpa using hu))
    (fun k y hy => by rw [Nat.add_assoc, Nat.add_comm 1 k]; exact hG (k + 1) y (by simpa using hy)) hW
    (fun n d' hd' => hL n d' (by
     simp only [entP, lk]
     have hne : n ≠ objName k0 := by
      rcases entP_names l (k0 + 1) j0 z n d' hd' with ⟨k', q1, q2⟩ | ⟨j', q1, q2⟩ <;> (rw [q2]; unfold objName; try unfold wName) <;> omega
     rw [beq_ne hne]; exact hd'))
   have hL0 := hL (objName k0) ⟨t, f d.val⟩ (by simp [entP, lk])
   have hG0 := hG 0 (d, g) rfl
   rw [Nat.add_zero] at hG0
   refine ⟨fun s e he => ?_, fun n d' hd' => ?_, fun k hk => ?_⟩
   ·simp only [entE, lk] at he
    by_cases es : s = i0
    ·subst es
     simp only [Nat.beq_refl, cond_true, Option.some.injEq] at he
     subst he
     have := htv 0 v rfl
     rw [Nat.add_zero] at this
     simp only [EVR, EVRL]
     rw [this]
     exact ⟨Nat.le_refl _, _, hv, _, _, rfl, ⟨_, 0, _, b, o, hL0, rfl, by rw [hG0]; exact hg, rfl⟩, rfl⟩
    ·rw [beq_ne es] at he
     obtain ⟨m1, m2⟩ := k1 s e he
     exact ⟨by omega, m2⟩
   ·simp only [entP, lk] at hd'
    by_cases e : n = objName k0
    ·subst e
     simp only [Nat.beq_refl, cond_true, Option.some.injEq] at hd'
     subst hd'
     exact .inl ⟨0, (d, g), rfl, rfl, (size_of_sk hsk).symm, fun hp => ⟨cv_rel d.ty t f hf d.val _ _ hp.1, hp.2⟩⟩
    ·rw [beq_ne e] at hd'
     rcases k2 n d' hd' with ⟨k, y, m1, m2, m3⟩ | h
     ·exact .inl ⟨k + 1, y, by rw [m1]; congr 1; omega, by simpa using m2, m3⟩
     ·exact .inr h
   ·simp only [entP, lk]
    cases k with
    | zero => exact ⟨_, by rw [Nat.add_zero, Nat.beq_refl]; rfl⟩
    | succ k =>
     obtain ⟨d', hd'⟩ := k3 k (by simp only [nObj] at hk; omega)
     refine ⟨d', ?_⟩
     rw [beq_ne (by unfold objName; omega), show k0 + (k + 1) = k0 + 1 + k by omega]
     exact hd'
  ·cases hm
 | .own t :: l, .own d :: r, x, hm, os, _, _, ⟨v, rv, g, ow', rfl, rfl, ⟨hgc, hds, hda⟩, hA⟩, how => by
  simp only [matchArgs] at hm
  split at hm
  ·rename_i hts
   simp only [Bool.and_eq_true, Bool.not_eq_true'] at hts
   have hts1 := Nat.eq_of_beq_eq_true hts.1
   obtain ⟨f, hf, hm⟩ := bind_some hm
   obtain ⟨z, hz, rfl⟩ := Option.map_eq_some_iff.1 hm
   obtain ⟨h1, h2, h3⟩ := matchArgs_ok l r z hz os ow' rv hA (fun y hy => how y (by simp [hy]))
   refine ⟨by simp [h1], h2, fun i0 k0 j0 tv G L htv hG hW hL => ?_⟩
   obtain ⟨k1, k2, k3⟩ := h3 (i0 + 1) k0 (j0 + 1) tv G L (fun i u hu => by rw [Nat.add_assoc, Nat.add_comm 1 i]; exact htv (i + 1) u (by simpa using hu)) hG
    (fun j y hy => by rw [Nat.add_assoc, Nat.add_comm 1 j]; exact hW (j + 1) y (by simpa using hy))
    (fun n d' hd' => hL n d' (by
     simp only [entP, lk]
     have hne : n ≠ wName j0 := by
      rcases entP_names l k0 (j0 + 1) z n d' hd' with ⟨k', q1, q2⟩ | ⟨j', q1, q2⟩ <;> (rw [q2]; unfold wName; try unfold objName) <;> omega
     rw [beq_ne hne]; exact hd'))
   have hL0 := hL (wName j0) ⟨t, f d.val⟩ (by simp [entP, lk])
   have hG0 := hW 0 (d, g) rfl
   rw [Nat.add_zero] at hG0
   have hR := (how (d, g) (by simp)).1
   simp only [hgc] at hR
   have hpv := Rel_plain w B _ _ _ _ hR v (by simp)
   have hvc : v.cells.toList = [v] := by cases v <;> first | rfl | (cases hpv)
   have hva : Value.agg? v = false := by cases v <;> first | rfl | (cases hpv)
   refine ⟨fun s e he => ?_, fun n d' hd' => ?_, fun k hk => ?_⟩
   ·simp only [entE, lk] at he
    by_cases es : s = i0
    ·subst es
     simp only [Nat.beq_refl, cond_true, Option.some.injEq] at he
     subst he
     have := htv 0 v rfl
     rw [Nat.add_zero] at this
     simp only [EVR]
     rw [this]
     refine ⟨Nat.le_refl _, _, 0, _, hL0, rfl, ?_, by rw [hva]; exact hts.2.symm⟩
     rw [hG0, hvc]
     show [v] = (g.cells.drop 0).take t.size
     rw [hgc, hts1]
     rfl
    ·rw [beq_ne es] at he
     obtain ⟨m1, m2⟩ := k1 s e he
     exact ⟨by omega, m2⟩
   ·simp only [entP, lk] at hd'
    by_cases e : n = wName j0
    ·subst e
     simp only [Nat.beq_refl, cond_true, Option.some.injEq] at hd'
     subst hd'
     exact .inr ⟨0, (d, g), rfl, rfl, fun hp => ⟨cv_rel d.ty t f hf d.val _ _ hp.1, hp.2⟩⟩
    ·rw [beq_ne e] at hd'
     rcases k2 n d' hd' with h | ⟨j, y, m1, m2, m3⟩
     ·exact .inl h
     ·exact .inr ⟨j + 1, y, by rw [m1]; congr 1; omega, by simpa using m2, m3⟩
   ·simp only [entP, lk]
    obtain ⟨d', hd'⟩ := k3 k hk
    refine ⟨d', ?_⟩
    rw [beq_ne (by unfold objName wName; omega)]
    exact hd'
  ·cases hm
 | [], _ :: _, _, hm, _, _, _, _, _ => by simp [matchArgs] at hm
 | _ :: _, [], _, hm, _, _, _, _, _ => by simp [matchArgs] at hm
 | .val _ :: _, .obj _ :: _, _, hm, _, _, _, _, _ => by simp [matchArgs] at hm
 | .val _ :: _, .ref _ :: _, _, hm, _, _, _, _, _ => by simp [matchArgs] at hm
 | .val _ :: _, .fn _ _ :: _, _, hm, _, _, _, _, _ => by simp [matchArgs] at hm
 | .val _ :: _, .own _ :: _, _, hm, _, _, _, _, _ => by simp [matchArgs] at hm
 | .obj _ :: _, .val _ :: _, _, hm, _, _, _, _, _ => by simp [matchArgs] at hm
 | .obj _ :: _, .ref _ :: _, _, hm, _, _, _, _, _ => by simp [matchArgs] at hm
 | .obj _ :: _, .fn _ _ :: _, _, hm, _, _, _, _, _ => by simp [matchArgs] at hm
 | .obj _ :: _, .own _ :: _, _, hm, _, _, _, _, _ => by simp [matchArgs] at hm
 | .ref _ :: _, .val _ :: _, _, hm, _, _, _, _, _ => by simp [matchArgs] at hm
 | .ref _ :: _, .obj _ :: _, _, hm, _, _, _, _, _ => by simp [matchArgs] at hm
 | .ref _ :: _, .fn _ _ :: _, _, hm, _, _, _, _, _ => by simp [matchArgs] at hm
 | .ref _ :: _, .own _ :: _, _, hm, _, _, _, _, _ => by simp [matchArgs] at hm
 | .fnc _ :: _, .val _ :: _, _, hm, _, _, _, _, _ => by simp [matchArgs] at hm
 | .fnc _ :: _, .obj _ :: _, _, hm, _, _, _, _, _ => by simp [matchArgs] at hm
 | .fnc _ :: _, .ref _ :: _, _, hm, _, _, _, _, _ => by simp [matchArgs] at hm
 | .fnc _ :: _, .own _ :: _, _, hm, _, _, _, _, _ => by simp [matchArgs] at hm
 | .own _ :: _, .val _ :: _, _, hm, _, _, _, _, _ => by simp [matchArgs] at hm
 | .own _ :: _, .obj _ :: _, _, hm, _, _, _, _, _ => by simp [matchArgs] at hm
 | .own _ :: _, .ref _ :: _, _, hm, _, _, _, _, _ => by simp [matchArgs] at hm
 | .own _ :: _, .fn _ _ :: _, _, hm, _, _, _, _, _ => by simp [matchArgs] at hm
 | .fnc _ :: _, .fn _ (_ :: _) :: _, _, hm, _, _, _, _, _ => by simp [matchArgs] at hm
 | .val _ :: _, .fno _ _ :: _, _, hm, _, _, _, _, _ => by simp [matchArgs] at hm
 | .obj _ :: _, .fno _ _ :: _, _, hm, _, _, _, _, _ => by simp [matchArgs] at hm
 | .ref _ :: _, .fno _ _ :: _, _, hm, _, _, _, _, _ => by simp [matchArgs] at hm
 | .fnc _ :: _, .fno _ _ :: _, _, hm, _, _, _, _, _ => by simp [matchArgs] at hm
 | .own _ :: _, .fno _ _ :: _, _, hm, _, _, _, _, _ => by simp [matchArgs] at hm
 | .fno _ _ :: _, .val _ :: _, _, hm, _, _, _, _, _ => by simp [matchArgs] at hm
 | .fno _ _ :: _, .obj _ :: _, _, hm, _, _, _, _, _ => by simp [matchArgs] at hm
 | .fno _ _ :: _, .ref _ :: _, _, hm, _, _, _, _, _ => by simp [matchArgs] at hm
 | .fno _ _ :: _, .fn _ _ :: _, _, hm, _, _, _, _, _ => by simp [matchArgs] at hm
 | .fno _ _ :: _, .own _ :: _, _, hm, _, _, _, _, _ => by simp [matchArgs] at hm

theorem obs_disj {os : Obs} (hn : os.ob.Nodup) {i j : Nat} {x y : Dyn × PG} (hx : os[i]? = some x) (hy : os[j]? = some y) (hne : i ≠ j) : ∀ b ∈ x.2.blocks, b ∉ y.2.blocks :=
 flatMap_disj (f := fun x : Dyn × PG => x.2.blocks) hn hx hy hne

theorem entry_ok {dr : Bool} {P : Program} {nt : Nat} {l : List AK} {avs : List AV} {x : ArgT l} (hm : matchArgs l avs = some x) {os ow : Obs} {vs : List Value} (hent : Ent w B os ow) (hA : ARel w B avs os ow vs) (hle : l.length ≤ nt) :
  Inv ⟨P, nt, w, B, Obs.ob (os ++ ow), fun k => (os[k]?).bind fun x => x.2.addr.map fun q => (q.1, q.2, x.1.ty.size), dr⟩ (entry l x) { tmps := vs.toArray ++ Array.replicate (nt - vs.toArray.size) undef, defers := [] } w B (entG os ow) := by
 obtain ⟨h1, h2, h3⟩ := matchArgs_ok l avs x hm os ow vs hA (fun y hy => hent.pl y (List.mem_append.2 (.inr hy)))
 obtain ⟨k1, k2, k3⟩ := h3 0 0 0 (tv { tmps := vs.toArray ++ Array.replicate (nt - vs.toArray.size) undef, defers := [] }) (entG os ow) (look (entry l x))
  (fun i v hv => by
   rw [Nat.zero_add]
   have hi := (List.getElem?_eq_some_iff.1 hv).1
   simp only [tv, Array.getD_eq_getD_getElem?]
   rw [Array.getElem?_append_left (by simpa using hi)]
   simp [hv])
  (fun k y hy => by rw [Nat.zero_add]; exact entG_obj hy) (fun j y hy => by rw [Nat.zero_add]; exact entG_own hy) (fun n d hd => hd)

 have hsrc : ∀ n d, lk n (entry l x).pl = some d → ∃ (q : Nat) (y : Dyn × PG), (os ++ ow)[q]? = some y ∧ entG os ow n = y.2 ∧ (PlR w B y.2 y.1 → PlR w B y.2 d) ∧ ∀ m d', lk m (entry l x).pl = some d' → n ≠ m → ∃ (q' : Nat) (y' : Dyn × PG), (os ++ ow)[q']? = some y' ∧ entG os ow m = y'.2 ∧ q ≠ q' := by
  have one : ∀ n d, lk n (entry l x).pl = some d → ∃ (q : Nat) (y : Dyn × PG), (os ++ ow)[q]? = some y ∧ entG os ow n = y.2 ∧ (PlR w B y.2 y.1 → PlR w B y.2 d) ∧ ((n = objName q ∧ q < os.length) ∨ (os.length ≤ q ∧ n = wName (q - os.length))) := by
   intro n d hd
   rcases k2 n d hd with ⟨k, y, rfl, hy, _, hp⟩ | ⟨j, y, rfl, hy, hp⟩
   ·have hk := (List.getElem?_eq_some_iff.1 hy).1
    rw [Nat.zero_add]
    exact ⟨k, y, by rw [List.getElem?_append_left hk]; exact hy, entG_obj hy, hp, .inl ⟨rfl, hk⟩⟩
   ·rw [Nat.zero_add]
    exact ⟨os.length + j, y, by rw [List.getElem?_append_right (by omega), Nat.add_sub_cancel_left]; exact hy, entG_own hy, hp, .inr ⟨by omega, by rw [Nat.add_sub_cancel_left]⟩⟩
  intro n d hd
  obtain ⟨q, y, m1, m2, m3, m4⟩ := one n d hd
  refine ⟨q, y, m1, m2, m3, fun m d' hd' hne => ?_⟩
  obtain ⟨q', y', m1', m2', _, m4'⟩ := one m d' hd'
  refine ⟨q', y', m1', m2', fun e => hne ?_⟩
  subst e
  rcases m4 with ⟨h1, h2⟩ | ⟨h1, h2⟩ <;> rcases m4' with ⟨h3, h4⟩ | ⟨h3, h4⟩
  ·rw [h1, h3]
  ·omega
  ·omega
  ·rw [h2, h4]
 refine ⟨rfl, ?_, hent.bsz, fun _ h => h, fun b _ h => .inl h, fun t e he => (k1 t e he).2, fun n d hd => ?_, fun n d hd => ?_, fun n m d d' hd hd' hne => ?_, Nat.le_refl _, fun _ _ _ => rfl, ⟨rfl, rfl, rfl, fun _ => Nat.le_refl _⟩, fun k d hd => ?_, fun k b o s ho => ?_, fun k b o s ho => ?_, fun _ _ _ _ _ _ _ => rfl⟩
 ·simp only [Array.size_append, List.size_toArray, Array.size_replicate]
  omega
 ·obtain ⟨q, y, hy, hg, hp, _⟩ := hsrc n d hd
  rw [hg]
  exact hp (hent.pl y (List.mem_of_getElem? hy))
 ·obtain ⟨q, y, hy, hg, hp, _⟩ := hsrc n d hd
  rw [hg]
  refine ⟨flatMap_nodup_of (f := fun x : Dyn × PG => x.2.blocks) hent.nd hy, fun b hb => ⟨hent.sep y (List.mem_of_getElem? hy) b hb, fun _ => ?_⟩⟩
  exact Obs.mem_ob.2 ⟨y, List.mem_of_getElem? hy, hb⟩
 ·obtain ⟨q, y, hy, hg, hp, hother⟩ := hsrc n d hd
  obtain ⟨q', y', hy', hg', hqq⟩ := hother m d' hd' hne
  rw [hg, hg']
  exact obs_disj hent.nd hy hy' hqq
 ·rcases k2 _ d hd with ⟨k', y, he, hy, hsz, _⟩ | ⟨j, y, he, _⟩
  ·rw [Nat.zero_add] at he
   have : k = k' := by unfold objName at he; omega
   subst this
   obtain ⟨q, hq⟩ := hent.addr y (List.mem_of_getElem? hy)
   refine ⟨q.1, q.2, y.1.ty.size, by simp only [hy, Option.bind_some, hq, Option.map_some], by rw [entG_obj hy]; exact hq, hsz⟩
  ·unfold objName wName at he; omega
 ·obtain ⟨y, hy, ho⟩ := bind_some ho
  obtain ⟨q, hq, ho⟩ := Option.map_eq_some_iff.1 ho
  simp only [Prod.mk.injEq] at ho
  obtain ⟨rfl, rfl, rfl⟩ := ho
  have hp := (hent.pl y (List.mem_append.2 (.inl (List.mem_of_getElem? hy)))).2
  rw [hq] at hp
  obtain ⟨_, c, hc⟩ := hp
  exact hc.lt
 ·obtain ⟨y, hy, ho⟩ := bind_some ho
  have := k3 k (by rw [← h2]; exact (List.getElem?_eq_some_iff.1 hy).1)
  rw [Nat.zero_add] at this
  exact this

theorem nodup_flat {α : Type} {f : α → List Nat} : ∀ {l : List α}, (∀ (k : Nat) g, l[k]? = some g → (f g).Nodup) → (∀ (k k' : Nat) g g', l[k]? = some g → l[k']? = some g' → k ≠ k' → ∀ b ∈ f g, b ∈ f g' → False) → (l.flatMap f).Nodup
 | [], _, _ => List.nodup_nil
 | x :: l, h1, h2 => by
  rw [List.flatMap_cons]
  refine List.nodup_append.2 ⟨h1 0 x rfl, nodup_flat (fun k g hg => h1 (k + 1) g (by simpa using hg)) (fun k k' g g' hg hg' hne => h2 (k + 1) (k' + 1) g g' (by simpa using hg) (by simpa using hg') (by omega)), fun b hb b' hb' e => ?_⟩
  subst e
  obtain ⟨y, hy, hby⟩ := List.mem_flatMap.1 hb'
  obtain ⟨k, hk⟩ := List.getElem?_of_mem hy
  exact h2 0 (k + 1) x y rfl (by simpa using hk) (by omega) b hb hby

theorem filterMap_idx {n : Nat} : ∀ {ns : List (Option Nat)}, (ns.filterMap id).Nodup → ∀ {i j : Nat}, ns[i]? = some (some n) → ns[j]? = some (some n) → i ≠ j → False
 | [], _, i, _, h, _, _ => by simp at h
 | x :: ns, hn, i, j, hi, hj, hne => by
  have hrest : (ns.filterMap id).Nodup := by
   cases x with
   | none => simpa using hn
   | some m => exact (List.nodup_cons.1 (by simpa using hn)).2
  have hnot : ∀ k : Nat, ns[k]? = some (some n) → x = some n → False := by
   intro k hk hx
   subst hx
   have : (n :: ns.filterMap id).Nodup := by simpa using hn
   exact (List.nodup_cons.1 this).1 (List.mem_filterMap.2 ⟨some n, List.mem_of_getElem? hk, rfl⟩)
  cases i with
  | zero =>
   have hx : x = some n := by simpa using hi
   cases j with
   | zero => exact hne rfl
   | succ j => exact hnot j (by simpa using hj) hx
  | succ i =>
   cases j with
   | zero => exact hnot i (by simpa using hi) (by simpa using hj)
   | succ j => exact filterMap_idx hrest (by simpa using hi) (by simpa using hj) (by omega)

theorem run_results {P : Program} {fn : Func} {ts : List Nat} (hres : fn.results = (ts.map ResultVar.tmp).toArray) (a : Act) (w : World) :
  (results fn a.tmps).run P w = .ok (match ts.map (tv a) with | [v] => v | l => .tuple l.toArray) w := by
 have key : ∀ (F : ResultVar → Sem Value), (∀ t, F (.tmp t) = pure (a.tmps.getD t undef)) → ∀ (ts : List Nat), ((ts.map ResultVar.tmp).mapM F).run P w = .ok (ts.map (tv a)) w := by
  intro F hF ts
  induction ts with
  | nil => rfl
  | cons t ts ih => simp only [List.map_cons, List.mapM_cons, Sem.run_bind, hF, Sem.run_pure, Result.andThen_ok, ih]; rfl
 unfold results
 rw [hres]
 simp only [List.mapM_toArray, Sem.run_bind, Sem.run_map]
 rw [key _ (by intro t; rfl) ts]
 simp only [Result.andThen_ok, Sem.run_pure]
 generalize ts.map (tv a) = l
 match l with
 | [] => rfl
 | [v] => rfl
 | v :: u :: l => simp

theorem fin1_lvs {dr : Bool} {P : Program} {nt : Nat} {os ow : Obs} (hent : Ent w B os ow) {A : Alt} (hols : A.2.length = os.length) {ts : List Nat} {st : St} {a : Act} {w' : World} {B' : Nat → Prop} {G' : Nat → PG}
  (h : Inv ⟨P, nt, w, B, Obs.ob (os ++ ow), fun k => (os[k]?).bind fun x => x.2.addr.map fun q => (q.1, q.2, x.1.ty.size), dr⟩ st a w' B' G') {r : ResT A.1 × ObjT A.2} (he : fin1 A ts st = some r) :
  ∃ B' gs rs, Lvs dr w B os ow (resL A.1 r.1) (objsL A.2 r.2) (match ts.map (tv a) with | [v] => v | l => .tuple l.toArray) w' B' gs rs := by
 unfold fin1 at he
 split at he
 ·rename_i hnd
  have hnd := nodupN_ok _ hnd
  obtain ⟨⟨z, sf⟩, hz, he⟩ := bind_some he
  obtain ⟨o, ho, rfl⟩ := Option.map_eq_some_iff.1 he
  obtain ⟨B2, G2, hI2, hB2, hE2, henv, rs, g1, g2, ns, n1, n2, n3⟩ := finR_ok h.size ts A.1 st B' G' z sf h hz
  have hO := finO_ok hI2 A.2 0 o ho
  let gs : List PG := (List.range os.length).map fun k => G2 (objName k)
  have hgs : ∀ k : Nat, k < os.length → gs[k]? = some (G2 (objName k)) := by
   intro k hk
   show ((List.range os.length).map fun k => G2 (objName k))[k]? = _
   rw [List.getElem?_map, List.getElem?_range hk]; rfl
  have hos : ∀ (k : Nat) (y : Dyn × PG), os[k]? = some y → ∃ b o, y.2.addr = some (b, o) ∧ (G2 (objName k)).addr = some (b, o) ∧ ∃ d, lk (objName k) sf.pl = some d ∧ d.ty.size = y.1.ty.size := by
   intro k y hy
   obtain ⟨q, hq⟩ := hent.addr y (List.mem_of_getElem? hy)
   have hoa : ((os[k]?).bind fun x => x.2.addr.map fun q => (q.1, q.2, x.1.ty.size)) = some (q.1, q.2, y.1.ty.size) := by simp only [hy, Option.bind_some, hq, Option.map_some]
   obtain ⟨d, hd⟩ := hI2.objL k _ _ _ hoa
   obtain ⟨b, o', s', m1, m2, m3⟩ := hI2.obj k d hd
   have m1 : ((os[k]?).bind fun x => x.2.addr.map fun q => (q.1, q.2, x.1.ty.size)) = some (b, o', s') := m1
   rw [hoa] at m1
   simp only [Option.some.injEq, Prod.mk.injEq] at m1
   obtain ⟨rfl, rfl, rfl⟩ := m1
   exact ⟨q.1, q.2, hq, m2, d, hd, m3⟩
  refine ⟨B2, gs, rs, ?_, ?_, g2, ?_, ?_, hI2.size, hI2.rest, fun b hb => ⟨hI2.old b (hent.bsz b hb) (fun ho => ?_), hI2.b0 b hb⟩, hI2.bsz, hI2.bold, hI2.old, ?_⟩
  ·
   have hl : rs.map (·.1) = ts.map (tv a) := g1
   rw [← hl]
   match rs with
   | [] => rfl
   | [q] => rfl
   | q1 :: q2 :: rs => rfl
  ·
   have key : ∀ (os' : Obs) (k0 : Nat) (ds : List Dyn) (gs' : List PG), (∀ k y, os'[k]? = some y → os[k0 + k]? = some y) → ds.length = os'.length → (∀ k d, ds[k]? = some d → (objsL A.2 o)[k0 + k]? = some d) → gs'.length = os'.length → (∀ k g, gs'[k]? = some g → gs[k0 + k]? = some g) → OsRel w' B2 os' ds gs' := by
    intro os'
    induction os' with
    | nil =>
     intro k0 ds gs' _ hl _ hl2 _
     exact ⟨List.eq_nil_of_length_eq_zero hl, List.eq_nil_of_length_eq_zero hl2⟩
    | cons y os' ih =>
     intro k0 ds gs' h1 hl h2 hl2 h3
     cases ds with
     | nil => simp at hl
     | cons d ds =>
      cases gs' with
      | nil => simp at hl2
      | cons g gs' =>
       have hy := h1 0 y rfl
       have hd := h2 0 d rfl
       have hg := h3 0 g rfl
       rw [Nat.add_zero] at hy hd hg
       obtain ⟨b, o', a1, a2, d0, a3, a4⟩ := hos k0 y hy
       have hk0 := (List.getElem?_eq_some_iff.1 hy).1
       rw [hgs k0 hk0] at hg
       obtain rfl := Option.some.inj hg
       obtain ⟨m1, d1, m2, m3⟩ := hO k0 d hd
       rw [Nat.zero_add] at m1 m2
       rw [a3] at m2
       obtain rfl := Option.some.inj m2
       refine ⟨d, _, ds, gs', rfl, rfl, m1, by rw [a2, a1], by rw [m3, a4], ih (k0 + 1) ds gs' (fun k y hy => ?_) (by simpa using hl) (fun k d hd => ?_) (by simpa using hl2) (fun k g hg => ?_)⟩
       ·rw [show k0 + 1 + k = k0 + (k + 1) by omega]; exact h1 (k + 1) y (by simpa using hy)
       ·rw [show k0 + 1 + k = k0 + (k + 1) by omega]; exact h2 (k + 1) d (by simpa using hd)
       ·rw [show k0 + 1 + k = k0 + (k + 1) by omega]; exact h3 (k + 1) g (by simpa using hg)
   refine key os 0 _ gs (fun k y hy => by rw [Nat.zero_add]; exact hy) (by rw [objsL_len, hols]) (fun k d hd => by rw [Nat.zero_add]; exact hd) (by simp [gs]) (fun k g hg => by rw [Nat.zero_add]; exact hg)
  ·
   have hgsn : ∀ k g, gs[k]? = some g → k < os.length ∧ g = G2 (objName k) ∧ ∃ d, lk (objName k) sf.pl = some d := by
    intro k g hg
    have hk : k < os.length := by have := (List.getElem?_eq_some_iff.1 hg).1; simpa [gs] using this
    rw [hgs k hk] at hg
    obtain ⟨_, _, _, _, d, hd, _⟩ := hos k _ (List.getElem?_eq_getElem hk)
    exact ⟨hk, (Option.some.inj hg).symm, d, hd⟩
   have hrsn : ∀ (i : Nat) (q : Value × PG), rs[i]? = some q → q.2.blocks = [] ∨ ∃ n, ns[i]? = some (some n) ∧ n % 2 = 0 ∧ q.2.blocks.Sublist (G2 n).blocks ∧ ∃ d, lk n sf.pl = some d := by
    intro i q hq
    have hi : i < ns.length := by rw [← n2]; exact (List.getElem?_eq_some_iff.1 hq).1
    have := n3 i q _ hq (List.getElem?_eq_getElem hi)
    cases hm : ns[i] with
    | none => rw [hm] at this; exact .inl this
    | some n => rw [hm] at this; exact .inr ⟨n, by rw [List.getElem?_eq_getElem hi, hm], this⟩
   refine List.nodup_append.2 ⟨?_, ?_, ?_⟩
   ·refine nodup_flat (fun k g hg => ?_) (fun k k' g g' hg hg' hne b hb hb' => ?_)
    ·obtain ⟨_, rfl, d, hd⟩ := hgsn k g hg
     exact (hI2.sep _ d hd).1
    ·obtain ⟨_, rfl, d, hd⟩ := hgsn k g hg
     obtain ⟨_, rfl, d', hd'⟩ := hgsn k' g' hg'
     exact hI2.apart _ _ d d' hd hd' (by unfold objName; omega) b hb hb'
   ·refine nodup_flat (fun k g hg => ?_) (fun k k' g g' hg hg' hne b hb hb' => ?_)
    ·rcases hrsn k g hg with h | ⟨n, _, _, h2, d, hd⟩
     ·rw [h]; exact List.nodup_nil
     ·exact h2.nodup (hI2.sep n d hd).1
    ·rcases hrsn k g hg with h | ⟨n, e1, _, h2, d, hd⟩
     ·rw [h] at hb; cases hb
     ·rcases hrsn k' g' hg' with h | ⟨n', e1', _, h2', d', hd'⟩
      ·rw [h] at hb'; cases hb'
      ·have hnn : n ≠ n' := by
        intro e
        subst e
        rw [← n1] at hnd
        exact filterMap_idx hnd e1 e1' hne
       exact hI2.apart n n' d d' hd hd' hnn b (h2.subset hb) (h2'.subset hb')
   ·intro b hb b' hb' e
    subst e
    obtain ⟨g, hg, hbg⟩ := List.mem_flatMap.1 hb
    obtain ⟨q, hq, hbq⟩ := List.mem_flatMap.1 hb'
    obtain ⟨k, hk⟩ := List.getElem?_of_mem hg
    obtain ⟨i, hi⟩ := List.getElem?_of_mem hq
    obtain ⟨_, rfl, d, hd⟩ := hgsn k g hk
    rcases hrsn i q hi with h | ⟨n, _, ev, h2, d', hd'⟩
    ·rw [h] at hbq; cases hbq
    ·exact hI2.apart _ n d d' hd hd' (by unfold objName; omega) b hbg (h2.subset hbq)
  ·intro b hb
   rcases List.mem_append.1 hb with hb | hb
   ·obtain ⟨g, hg, hbg⟩ := List.mem_flatMap.1 hb
    obtain ⟨k, hk⟩ := List.getElem?_of_mem hg
    have hkl : k < os.length := by have := (List.getElem?_eq_some_iff.1 hk).1; simpa [gs] using this
    rw [hgs k hkl] at hk
    obtain rfl := Option.some.inj hk
    obtain ⟨_, _, _, _, d, hd, _⟩ := hos k _ (List.getElem?_eq_getElem hkl)
    exact (hI2.sep _ d hd).2 b hbg
   ·obtain ⟨q, hq, hbq⟩ := List.mem_flatMap.1 hb
    obtain ⟨i, hi⟩ := List.getElem?_of_mem hq
    have hin : i < ns.length := by rw [← n2]; exact (List.getElem?_eq_some_iff.1 hi).1
    have := n3 i q _ hi (List.getElem?_eq_getElem hin)
    cases hm : ns[i] with
    | none => rw [hm] at this; have this : q.2.blocks = [] := this; rw [this] at hbq; cases hbq
    | some n =>
     rw [hm] at this
     obtain ⟨_, h2, d, hd⟩ := this
     exact (hI2.sep n d hd).2 b (h2.subset hbq)
  ·obtain ⟨y, hy, hby⟩ := Obs.mem_ob.1 ho
   exact hent.sep y hy b hby hb
  ·intro y hy b o' hya i hi
   obtain ⟨k, hk⟩ := List.getElem?_of_mem hy
   exact hI2.objR k b o' y.1.ty.size (by simp only [hk, Option.bind_some, hya, Option.map_some]) i hi
 ·cases he

theorem finA_lvs {dr : Bool} {P : Program} {nt : Nat} {os ow : Obs} (hent : Ent w B os ow) {ts : List Nat} {st : St} {a : Act} {w' : World} {B' : Nat → Prop} {G' : Nat → PG}
  (h : Inv ⟨P, nt, w, B, Obs.ob (os ++ ow), fun k => (os[k]?).bind fun x => x.2.addr.map fun q => (q.1, q.2, x.1.ty.size), dr⟩ st a w' B' G') : ∀ (l : List Alt) (r : AltT l), l.all (fun A => Nat.beq A.2.length os.length) = true → finA l ts st = some r →
  ∃ B' gs rs, Lvs dr w B os ow (resL (altR l r).1.1 (altR l r).2.1) (objsL (altR l r).1.2 (altR l r).2.2) (match ts.map (tv a) with | [v] => v | l => .tuple l.toArray) w' B' gs rs
 | [], r, _, _ => nomatch r
 | [A], r, hl, he => by
  simp only [List.all_cons, List.all_nil, Bool.and_true] at hl
  exact fin1_lvs hent (A := A) (Nat.eq_of_beq_eq_true hl) h he
 | A :: b :: l, r, hl, he => by
  simp only [List.all_cons, Bool.and_eq_true] at hl
  simp only [finA] at he
  split at he
  ·rename_i z hz
   obtain rfl := Option.some.inj he
   exact fin1_lvs hent (A := A) (Nat.eq_of_beq_eq_true hl.1) h hz
  ·obtain ⟨z, hz, rfl⟩ := Option.map_eq_some_iff.1 he
   exact finA_lvs hent h (b :: l) z (by simp only [List.all_cons, Bool.and_eq_true]; exact hl.2) hz

def rvOf (q : Nat × Option TypeId) : ResultVar := match q.2 with
 | none => .tmp q.1
 | some ty => .cell q.1 ty

def rvRun (a : Act) (q : Nat × Option TypeId) : Sem Value := match q.2 with
 | none => pure (tv a q.1)
 | some ty => do loadVar ty (← asAddr (tv a q.1))

theorem cell_load {X : Cx} {st : St} {a : Act} {w : World} {B : Nat → Prop} {G : Nat → PG} (h : Inv X st a w B G) {t : Nat} {ty : TypeId} {e : EV} (he : cellE X.P st t ty = some e) : ∃ u, (rvRun a (t, some ty)).run X.P w = .ok u w ∧ EVR (tv a) w B G (look st) e u ∧ e.hangs t = false := by
 unfold cellE at he
 obtain ⟨e0, h0, he⟩ := bind_some he
 have hv := h.env t e0 h0
 cases e0 with
 | loc n p =>
  obtain ⟨y, hy, he⟩ := bind_some he
  split at he
  ·rename_i hs
   obtain ⟨τ, ov⟩ := y
   cases ov with
   | none => cases he
   | some x =>
    obtain rfl := Option.some.inj he
    have hs : sizeOk X.P ty τ = true := hs
    obtain ⟨b, off, cs, F, h1, h2, h3, d, o', hd, ho', hcs⟩ := loc_ok' h hv hy (x := x) rfl
    obtain ⟨u, k1, k2, k3⟩ := run_loadVar (w := w) hs h2 (Rel_length w B _ x cs _ h3) (Rel_plain w B _ x cs _ h3)
    have hrun : (rvRun a (t, some ty)).run X.P w = .ok u w := by
     simp only [rvRun, h1, asAddr]
     simp [k1]
    refine ⟨u, hrun, ?_, ?_⟩
    ·by_cases hp : τ.pure = true
     ·rw [if_pos hp]
      obtain rfl := Rel_pure w B τ x cs F hp h3
      simp only [EVR]
      exact ⟨hp, ⟨by rw [k2]; exact h3, k3⟩⟩
     ·rw [if_neg hp]
      simp only [EVR]
      exact ⟨d, o', _, hd, ho', by rw [k2]; exact hcs, k3⟩
    ·split <;> rfl
  ·cases he
 | _ => cases he

theorem cells_ok {X : Cx} {w : World} {B : Nat → Prop} {G : Nat → PG} : ∀ (ts : List (Nat × Option TypeId)) (st st' : St) (a : Act), Inv X st a w B G → loadCells X.P X.nt ts st = some st' →
  ∃ a', Inv X st' a' w B G ∧ (∀ s, (∀ q ∈ ts, q.2.isSome = true → q.1 ≠ s) → tv a' s = tv a s) ∧ (ts.mapM (rvRun a)).run X.P w = .ok (ts.map fun q => tv a' q.1) w
 | [], st, st', a, h, he => by
  obtain rfl := Option.some.inj he
  exact ⟨a, h, fun _ _ => rfl, rfl⟩
 | (t, none) :: r, st, st', a, h, he => by
  simp only [loadCells] at he
  split at he
  ·cases he
  ·rename_i hno
   obtain ⟨a', h1, h2, h3⟩ := cells_ok r st st' a h he
   have ht : tv a' t = tv a t := h2 t fun q hq hs e => hno (List.any_eq_true.2 ⟨q, hq, by rw [hs, e]; simp⟩)
   refine ⟨a', h1, fun s hs => h2 s fun q hq => hs q (by simp [hq]), ?_⟩
   simp only [List.mapM_cons, Sem.run_bind, List.map_cons, ht]
   simp only [rvRun, Sem.run_pure, Result.andThen_ok]
   rw [h3]
   rfl
 | (t, some ty) :: r, st, st', a, h, he => by
  simp only [loadCells] at he
  split at he
  ·cases he
  ·rename_i hno
   simp only [Bool.or_eq_true, not_or, Bool.not_eq_true, Bool.not_eq_true', Bool.not_eq_false] at hno
   obtain ⟨hno, hlt⟩ := hno
   obtain ⟨e, hc, he⟩ := bind_some he
   obtain ⟨u, k1, k2, k3⟩ := cell_load h hc
   have hlt : t < X.nt := by simpa [Nat.blt_eq] using hlt
   have hI := h.put hlt k2 k3
   obtain ⟨a', h1, h2, h3⟩ := cells_ok r _ st' _ hI he
   have hne : ∀ q ∈ r, q.1 ≠ t := fun q hq e => by
    have := List.any_eq_false.1 hno q hq
    rw [e] at this; simp at this
   have hput : ∀ s, s ≠ t → tv (a.put (some t) u) s = tv a s := fun s hs => by
    simp only [tv, Act.put]
    rw [Array.getD_eq_getD_getElem?, Array.getD_eq_getD_getElem?, Array.getElem?_setIfInBounds_ne (Ne.symm hs)]
   have htu : tv (a.put (some t) u) t = u := by
    simp only [tv, Act.put]
    rw [Array.getD_eq_getD_getElem?, Array.getElem?_setIfInBounds_self_of_lt (by rw [h.nt]; exact hlt)]
    rfl
   have ht : tv a' t = u := (h2 t fun q hq _ => hne q hq).trans htu
   refine ⟨a', h1, fun s hs => ?_, ?_⟩
   ·rw [h2 s fun q hq => hs q (by simp [hq])]
    exact hput s fun e => hs (t, some ty) (by simp) rfl e.symm
   ·have hcong : r.mapM (rvRun a) = r.mapM (rvRun (a.put (some t) u)) := by
     have : ∀ (l : List (Nat × Option TypeId)), (∀ q ∈ l, q.1 ≠ t) → l.mapM (rvRun a) = l.mapM (rvRun (a.put (some t) u)) := by
      intro l
      induction l with
      | nil => intro _; rfl
      | cons q l ih =>
       intro hl
       rw [List.mapM_cons, List.mapM_cons, ih fun q hq => hl q (by simp [hq])]
       have : rvRun a q = rvRun (a.put (some t) u) q := by
        unfold rvRun
        rw [hput q.1 (hl q (by simp))]
       rw [this]
     exact this r hne
    simp only [List.mapM_cons, Sem.run_bind, List.map_cons, ht, k1, Result.andThen_ok]
    rw [hcong, h3]
    rfl

theorem run_resultsA {P : Program} {fn : Func} {ts : List (Nat × Option TypeId)} (hres : fn.results = (ts.map rvOf).toArray) {a : Act} {w : World} {vs : List Value} (h : (ts.mapM (rvRun a)).run P w = .ok vs w) :
  (results fn a.tmps).run P w = .ok (match (generalizing := false) vs with | [v] => v | l => .tuple l.toArray) w := by
 have key : ∀ (F : ResultVar → Sem Value), (∀ q, F (rvOf q) = rvRun a q) → ∀ (ts : List (Nat × Option TypeId)), (ts.map rvOf).mapM F = ts.mapM (rvRun a) := by
  intro F hF ts
  induction ts with
  | nil => rfl
  | cons t ts ih => rw [List.map_cons, List.mapM_cons, List.mapM_cons, hF, ih]
 unfold results
 rw [hres]
 simp only [List.mapM_toArray, Sem.run_bind, Sem.run_map]
 rw [key _ (by intro q; obtain ⟨t, o⟩ := q; cases o <;> rfl) ts, h]
 simp only [Result.andThen_ok, Sem.run_pure]
 clear h
 match vs with
 | [] => rfl
 | [v] => rfl
 | v :: u :: l => simp

theorem contract_gen {dr : Bool} {C : Cfg} (hΓ : ∀ f sem, C.Γ f = some sem → ContractD dr C.P f sem) {args : List AK} {alts : List Alt} {f : Nat} {fn : Func} {c : Code} (hf : C.P.funcs[f]? = some fn) (hname : (fn.name == "runtime.NumGoroutine") = false) (hbody : fn.body = some c)
  (hnt : fn.ntmps = C.nt) (hle : Nat.ble args.length C.nt = true) (hob : C.nob = nObj args) {kf : St → Option (AltT alts)}
  (hkf : ∀ (X : Cx) (st : St) (a : Act) (w : World) (B : Nat → Prop) (G : Nat → PG) (r : AltT alts), X.P = C.P → X.nt = C.nt → Inv X st a w B G → kf st = some r → ∃ (st' : St) (a' : Act) (ts : List Nat), Inv X st' a' w B G ∧ finA alts ts st' = some r ∧ (results fn a.tmps).run C.P w = .ok (match ts.map (tv a') with | [v] => v | l => .tuple l.toArray) w)
  (hobs : alts.all (fun A => Nat.beq A.2.length C.nob) = true)
  {F : ArgT args → Option (AltT alts)} (hF : ∀ x, evalCode C c 0 (entry args x) kf [] kf = F x)   : ContractD dr C.P f (mkSemA args alts F) := by
 refine ⟨?_, fun z h => (by cases h), fun z h => (by cases h)⟩
 intro avs s hs r hr w B os ow vs hent hA
 refine .inl ⟨run_callFunc_body hf hname (by rw [hbody]; rfl) _ w, ?_⟩
 obtain ⟨x, hx, rfl⟩ := Option.map_eq_some_iff.1 hs
 have hr : F x = some r := hr
 have hle : args.length ≤ C.nt := Nat.le_of_ble_eq_true hle
 have hI := entry_ok (dr := dr) (P := C.P) hx hent hA hle
 obtain ⟨hvl, hol, _⟩ := matchArgs_ok args avs x hx os ow vs hA (fun y hy => hent.pl y (List.mem_append.2 (.inr hy)))
 rw [← hF x] at hr
 refine calls_of_wp hf hbody ?_
 rw [hnt]
 have hfin : ∀ st a w' B' G', Inv ⟨C.P, C.nt, w, B, Obs.ob (os ++ ow), fun k => (os[k]?).bind fun x => x.2.addr.map fun q => (q.1, q.2, x.1.ty.size), dr⟩ st a w' B' G' → kf st = some r →
   a.defers = [] ∧ ∃ v, (results fn a.tmps).run C.P w' = .ok v w' ∧ ∃ B' gs rs, Lvs dr w B os ow (resL (altR alts r).1.1 (altR alts r).2.1) (objsL (altR alts r).1.2 (altR alts r).2.2) v w' B' gs rs := by
  intro st a w' B' G' h he
  obtain ⟨st', a', ts, h1, h2, h3⟩ := hkf _ st a w' B' G' r rfl rfl h he
  exact ⟨h.defers, _, h3, finA_lvs hent h1 alts r (by rw [hol, ← hob]; exact hobs) h2⟩
 refine evalCode_ok (X := ⟨C.P, C.nt, w, B, Obs.ob (os ++ ow), fun k => (os[k]?).bind fun x => x.2.addr.map fun q => (q.1, q.2, x.1.ty.size), dr⟩) (C := C) rfl rfl ?_ hΓ c 0 _ kf [] kf r _ _ w B (entG os ow) hI ⟨?_, ?_, ?_⟩ hr
 ·intro k hk
  have : os[k]? = none := List.getElem?_eq_none (by rw [hol, ← hob]; exact hk)
  simp only [this, Option.bind_none]
 ·intro st a w' B' G' h he
  exact hfin st a w' B' G' h he
 ·intro id k hx; cases hx
 ·intro st a w' B' G' h he
  exact hfin st a w' B' G' h he

theorem contract_of {dr : Bool} {C : Cfg} (hΓ : ∀ f sem, C.Γ f = some sem → ContractD dr C.P f sem) {S : Sig} {f : Nat} {fn : Func} {c : Code} {ts : List Nat} (hf : C.P.funcs[f]? = some fn) (hname : (fn.name == "runtime.NumGoroutine") = false) (hbody : fn.body = some c)
  (hres : fn.results = (ts.map ResultVar.tmp).toArray) (hnt : fn.ntmps = C.nt) (hle : Nat.ble S.args.length C.nt = true) (hob : C.nob = nObj S.args) (hobs : S.outs.length = C.nob)
  {F : ArgT S.args → Option (ResT S.res × ObjT S.outs)} (hF : ∀ x, runF C S c ts x = F x)   : ContractD dr C.P f (mkSem S F) :=
 contract_gen hΓ (args := S.args) (alts := [(S.res, S.outs)]) hf hname hbody hnt hle hob (kf := fin S ts) (fun X st a w B G r hP hnt h he => ⟨st, a, ts, h, he, run_results hres a w⟩) (by simp [hobs]) hF

theorem contract_ofA {dr : Bool} {C : Cfg} (hΓ : ∀ f sem, C.Γ f = some sem → ContractD dr C.P f sem) {args : List AK} {alts : List Alt} {f : Nat} {fn : Func} {c : Code} {ts : List (Nat × Option TypeId)} (hf : C.P.funcs[f]? = some fn) (hname : (fn.name == "runtime.NumGoroutine") = false) (hbody : fn.body = some c)
  (hres : fn.results = (ts.map rvOf).toArray) (hnt : fn.ntmps = C.nt) (hle : Nat.ble args.length C.nt = true) (hob : C.nob = nObj args) (hobs : alts.all (fun A => Nat.beq A.2.length C.nob) = true)
  {F : ArgT args → Option (AltT alts)} (hF : ∀ x, runFA C args alts c ts x = F x)   : ContractD dr C.P f (mkSemA args alts F) := by
 refine contract_gen hΓ hf hname hbody hnt hle hob (fun X st a w B G r hP hnt h he => ?_) hobs hF
 obtain ⟨st', h1, h2⟩ := bind_some he
 rw [← hP, ← hnt] at h1
 obtain ⟨a', k1, k2, k3⟩ := cells_ok ts st st' a h h1
 refine ⟨st', a', ts.map (·.1), k1, h2, ?_⟩
 rw [← hP, List.map_map]
 exact run_resultsA hres k3

theorem contract_or {dr : Bool} {P : Program} {f : Nat} {a b : CSem} (ha : ContractD dr P f a) (hb : ContractD dr P f b) : ContractD dr P f (orSem a b) := by
 refine ⟨?_, fun z h => (by cases h), fun z h => (by cases h)⟩
 intro avs s hs
 have hs : (match a.run avs with | some s => some s | none => b.run avs) = some s := hs
 split at hs
 ·rename_i s' h
  obtain rfl := Option.some.inj hs
  exact ha.call avs _ h
 ·exact hb.call avs s hs

end
end
end Go.Pv

namespace Go.Pv
noncomputable section

def evalOpsM {α : Type} (P : Program) (Γ : Nat → Option CSem) (nt : Nat) (ops : Array Oper) (k : St → Option α) : List Oper → St → Option α
 | [], s => k s
 | o :: r, s => match o.guard with
  | none => match opE P Γ (fun n => lk n s.pl) s.env [] (o.dst.getD 0) o.op o.type with
   | none => none
   | some e => match e.run with
    | none => none
    | some x => e.spl.split (fun x => match putO nt o.dst (e.out x).ev (applyU (e.out x).upd s) with
     | none => none
     | some s => evalOpsM P Γ nt ops k r s) x
  | some (j, want) => match unrun ops s j with
   | true => match putO nt o.dst .none_ s with
    | none => none
    | some s => evalOpsM P Γ nt ops k r s
   | false => match guardE ops s j with
   | none => none
   | some tg => match opE P Γ (fun n => lk n s.pl) s.env [(tg.1, want)] (o.dst.getD 0) o.op o.type with
    | none => bif gcond want tg.2 then none else match putO nt o.dst .none_ s with
     | none => none
     | some s => evalOpsM P Γ nt ops k r s
    | some e => guardR (gcond want tg.2) e.run e.dflt fun x => e.spl.split (fun x => match mergeU (gcond want tg.2) (fun n => lk n s.pl) (e.out x).upd with
     | none => bif gcond want tg.2 then (match putO nt o.dst (.maybe tg.1 want true (e.out x).ev) (applyU (e.out x).upd s) with
      | none => none
      | some s => evalOpsM P Γ nt ops k r s) else (match putO nt o.dst .none_ s with
      | none => none
      | some s => evalOpsM P Γ nt ops k r s)
     | some u => match putO nt o.dst (.maybe tg.1 want (gcond want tg.2) (e.out x).ev) (applyU u s) with
      | none => none
      | some s => evalOpsM P Γ nt ops k r s) x

theorem evalOpsM_eq {α : Type} {P : Program} {Γ : Nat → Option CSem} {nt : Nat} {ops : Array Oper} {k k' : St → Option α} (hk : ∀ s, k s = k' s) : ∀ (l : List Oper) (s : St), evalOpsM P Γ nt ops k l s = evalOps P Γ nt ops k' l s
 | [], s => hk s
 | o :: r, s => by
  have ih : evalOpsM P Γ nt ops k r = evalOps P Γ nt ops k' r := funext fun s => evalOpsM_eq hk r s
  simp only [evalOpsM, evalOps, ih]
  cases o.guard with
  | none =>
   cases opE P Γ (fun n => lk n s.pl) s.env [] (o.dst.getD 0) o.op o.type with
   | none => rfl
   | some e =>
    simp only [Option.bind_some]
    cases e.run with
    | none => rfl
    | some x =>
     simp only [Option.bind_some]
     congr 1
     funext x
     cases putO nt o.dst (e.out x).ev (applyU (e.out x).upd s) <;> rfl
  | some jw =>
   obtain ⟨j, want⟩ := jw
   simp only
   cases unrun ops s j with
   | true => simp only [cond_true]; cases putO nt o.dst .none_ s <;> rfl
   | false =>
   simp only [cond_false]
   cases guardE ops s j with
   | none => rfl
   | some tg =>
    simp only [Option.bind_some]
    cases opE P Γ (fun n => lk n s.pl) s.env [(tg.1, want)] (o.dst.getD 0) o.op o.type with
    | none =>
     simp only
     cases putO nt o.dst .none_ s <;> rfl
    | some e =>
     simp only
     congr 1
     funext x
     congr 1
     funext x
     cases mergeU (gcond want tg.2) (fun n => lk n s.pl) (e.out x).upd with
     | none =>
      simp only
      cases gcond want tg.2 with
      | true => simp only [cond_true]; cases putO nt o.dst (.maybe tg.1 want true (e.out x).ev) (applyU (e.out x).upd s) <;> rfl
      | false => simp only [cond_false]; cases putO nt o.dst .none_ s <;> rfl
     | some u =>
      simp only
      cases putO nt o.dst (.maybe tg.1 want (gcond want tg.2) (e.out x).ev) (applyU u s) <;> rfl

def oneM {α : Type} (P : Program) (Γ : Nat → Option CSem) (ops : Array Oper) (o : Oper) (s : St) (κ : EV → Upds → Option α) : Option α := match o.guard with
 | none => match opE P Γ (fun n => lk n s.pl) s.env [] (o.dst.getD 0) o.op o.type with
  | none => none
  | some e => match e.run with
   | none => none
   | some x => e.spl.split (fun x => κ (e.out x).ev (e.out x).upd) x
 | some (j, want) => match unrun ops s j with
  | true => κ .none_ []
  | false => match guardE ops s j with
  | none => none
  | some tg => match opE P Γ (fun n => lk n s.pl) s.env [(tg.1, want)] (o.dst.getD 0) o.op o.type with
   | none => bif gcond want tg.2 then none else κ .none_ []
   | some e => guardR (gcond want tg.2) e.run e.dflt fun x => e.spl.split (fun x => match mergeU (gcond want tg.2) (fun n => lk n s.pl) (e.out x).upd with
    | none => bif gcond want tg.2 then κ (.maybe tg.1 want true (e.out x).ev) (e.out x).upd else κ .none_ []
    | some u => κ (.maybe tg.1 want (gcond want tg.2) (e.out x).ev) u) x

theorem oneM_eq {α : Type} {P : Program} {Γ : Nat → Option CSem} {ops : Array Oper} {o : Oper} {s : St} {κ κ' : EV → Upds → Option α} (h : ∀ e u, κ e u = κ' e u) : oneM P Γ ops o s κ = one P Γ ops o s κ' := by
 have h : κ = κ' := funext fun e => funext fun u => h e u
 subst h
 unfold oneM one
 cases o.guard with
 | none =>
  cases opE P Γ (fun n => lk n s.pl) s.env [] (o.dst.getD 0) o.op o.type with
  | none => rfl
  | some e =>
   simp only [Option.bind_some]
   cases e.run <;> rfl
 | some jw =>
  obtain ⟨j, want⟩ := jw
  simp only
  cases unrun ops s j with
  | true => rfl
  | false =>
  simp only [cond_false]
  cases guardE ops s j with
  | none => rfl
  | some tg =>
   simp only [Option.bind_some]
   cases opE P Γ (fun n => lk n s.pl) s.env [(tg.1, want)] (o.dst.getD 0) o.op o.type with
   | none => rfl
   | some e =>
    simp only
    congr 1
    funext x
    congr 1
    funext x
    cases mergeU (gcond want tg.2) (fun n => lk n s.pl) (e.out x).upd <;> rfl

def evalDrawM {α : Type} (P : Program) (Γ : Nat → Option CSem) (nt : Nat) (ops : Array Oper) (k : St → Option α) : List (Nat × Nat × Foot) → Nat → List Oper → St → Option α
 | _, _, [], s => k s
 | fs, i, o :: r, s => oneM P Γ ops o s fun e u => (fun f =>
   match depsOk i o.after.toList && (liveAll s.env (o.looksAt ops) && fits fs (ancL fs o.after.toList) f) with
   | true => match putO nt o.dst e (applyU u s) with
    | none => none
    | some s' => evalDrawM P Γ nt ops k ((i, ancL fs o.after.toList, f) :: fs) (i + 1) r s'
   | false => none) (footOf ops o s.env e u)

theorem evalDrawM_eq {α : Type} {P : Program} {Γ : Nat → Option CSem} {nt : Nat} {ops : Array Oper} {k k' : St → Option α} (hk : ∀ s, k s = k' s) : ∀ (l : List Oper) (fs : List (Nat × Nat × Foot)) (i : Nat) (s : St), evalDrawM P Γ nt ops k fs i l s = evalDraw P Γ nt ops k' fs i l s
 | [], fs, i, s => hk s
 | o :: r, fs, i, s => by
  simp only [evalDrawM, evalDraw]
  refine oneM_eq fun e u => ?_
  rw [nrmF_eq]
  cases depsOk i o.after.toList && (liveAll s.env (o.looksAt ops) && fits fs (ancL fs o.after.toList) (footOf ops o s.env e u)) with
  | false => rfl
  | true =>
   simp only [cond_true]
   cases putO nt o.dst e (applyU u s) with
   | none => rfl
   | some s' =>
    simp only [Option.bind_some]
    rw [nrmS_eq]
    exact evalDrawM_eq hk r _ _ s'

def evalCodeM (C : Cfg) : Code → {α : Type} → Nat → St → (St → Option α) → List (Nat × (St → Option α)) → (St → Option α) → Option α
 | .skip, _, _, s, kn, _, _ => kn s
 | .region _ ops d, _, _, s, kn, _, _ => match d with
  | true => match C.P.follows .mixedOrders with
   | true => evalDrawM C.P C.Γ C.nt ops kn [] 0 ops.toList s
   | false => none
  | false => evalOpsM C.P C.Γ C.nt ops kn ops.toList s
 | .seq x y, _, cur, s, kn, kx, kr => evalCodeM C x cur s (fun s => evalCodeM C y cur s kn kx kr) kx kr
 | .cond c x y, _, cur, s, kn, kx, kr => match anyE s c with
  | true => amb (evalCodeM C x cur s kn kx kr) (evalCodeM C y cur s kn kx kr)
  | false => match boolE s c with
   | none => none
   | some b => bif b then evalCodeM C x cur (sharp C.sh s c true) kn kx kr else evalCodeM C y cur (sharp C.sh s c false) kn kx kr
 | .block id x, _, _, s, kn, kx, kr => evalCodeM C x id s kn ((id, kn) :: kx) kr
 | .loop x, α, cur, s, _, kx, kr => match C.ann cur with
  | none => none
  | some sh => match abs C.nob sh s with
   | none => none
   | some y => loopR (fun z => evalCodeM C x (α := Sg sh ⊕ α) cur (conc sh z) (fun s => (abs C.nob sh s).map .inl) (kx.map fun q => (q.1, fun s => (q.2 s).map .inr)) (fun s => (kr s).map .inr)) y
 | .exit id, _, _, s, _, kx, _ => match lk id kx with
  | none => none
  | some k => k s
 | .label _, _, _, s, kn, _, _ => kn s
 | .scope x, _, cur, s, kn, kx, kr => evalCodeM C x cur s kn kx kr
 | .ret, _, _, s, _, _, kr => kr s
 | _, _, _, _, _, _, _ => none

theorem evalCodeM_eq (C : Cfg) : ∀ (c : Code) {α : Type} (cur : Nat) (s : St) (kn : St → Option α) (kx : List (Nat × (St → Option α))) (kr : St → Option α), evalCodeM C c cur s kn kx kr = evalCode C c cur s kn kx kr
 | .skip, _, _, _, _, _, _ => rfl
 | .label _, _, _, _, _, _, _ => rfl
 | .ret, _, _, _, _, _, _ => rfl
 | .exit id, _, _, s, _, kx, _ => by
  simp only [evalCodeM, evalCode]
  cases lk id kx <;> rfl
 | .region _ ops d, _, _, s, kn, _, _ => by
  simp only [evalCodeM, evalCode]
  cases d with
  | true =>
   simp only [cond_true]
   cases C.P.follows .mixedOrders with
   | true => exact evalDrawM_eq (fun _ => rfl) _ _ _ _
   | false => rfl
  | false => exact evalOpsM_eq (fun _ => rfl) _ _
 | .seq x y, _, cur, s, kn, kx, kr => by
  simp only [evalCodeM, evalCode]
  rw [evalCodeM_eq C x]
  congr 1
  funext s
  exact evalCodeM_eq C y cur s kn kx kr
 | .cond c x y, _, cur, s, kn, kx, kr => by
  simp only [evalCodeM, evalCode, evalCodeM_eq C x, evalCodeM_eq C y]
  cases anyE s c with
  | true => rfl
  | false =>
   simp only [cond_false]
   cases boolE s c <;> rfl
 | .block id x, _, _, s, kn, kx, kr => by
  simp only [evalCodeM, evalCode]
  exact evalCodeM_eq C x id s kn _ kr
 | .loop x, α, cur, s, kn, kx, kr => by
  simp only [evalCodeM, evalCode]
  cases C.ann cur with
  | none => rfl
  | some sh =>
   simp only [Option.bind_some]
   cases abs C.nob sh s with
   | none => rfl
   | some y =>
    simp only [Option.bind_some]
    congr 1
    funext z
    exact evalCodeM_eq C x cur (conc sh z) _ _ _
 | .rangeFunc _ _ _ _, _, _, _, _, _, _ => rfl
 | .scope x, _, cur, s, kn, kx, kr => by
  simp only [evalCodeM, evalCode]
  exact evalCodeM_eq C x cur s kn kx kr
 | .goto _, _, _, _, _, _, _ => rfl
 | .refuse _, _, _, _, _, _, _ => rfl

def runFM (C : Cfg) (S : Sig) (c : Code) (ts : List Nat) (x : ArgT S.args) : Option (ResT S.res × ObjT S.outs) :=
 evalCodeM C c 0 (entry S.args x) (fin S ts) [] (fin S ts)

def runFAM (C : Cfg) (args : List AK) (alts : List Alt) (c : Code) (ts : List (Nat × Option TypeId)) (x : ArgT args) : Option (AltT alts) :=
 evalCodeM C c 0 (entry args x) (fun s => match loadCells C.P C.nt ts s with | none => none | some s => finA alts (ts.map (·.1)) s) [] (fun s => match loadCells C.P C.nt ts s with | none => none | some s => finA alts (ts.map (·.1)) s)

theorem contract_ofM {dr : Bool} {C : Cfg} (hΓ : ∀ f sem, C.Γ f = some sem → ContractD dr C.P f sem) {S : Sig} {f : Nat} {fn : Func} {c : Code} {ts : List Nat} (hf : C.P.funcs[f]? = some fn) (hname : (fn.name == "runtime.NumGoroutine") = false) (hbody : fn.body = some c)
  (hres : fn.results = (ts.map ResultVar.tmp).toArray) (hnt : fn.ntmps = C.nt) (hle : Nat.ble S.args.length C.nt = true) (hob : C.nob = nObj S.args) (hobs : S.outs.length = C.nob)
  {F : ArgT S.args → Option (ResT S.res × ObjT S.outs)} (hF : ∀ x, runFM C S c ts x = F x)   : ContractD dr C.P f (mkSem S F) :=
 contract_of hΓ hf hname hbody hres hnt hle hob hobs fun x => by
  rw [← hF x]
  unfold runF runFM
  rw [evalCodeM_eq]

theorem contract_ofAM {dr : Bool} {C : Cfg} (hΓ : ∀ f sem, C.Γ f = some sem → ContractD dr C.P f sem) {args : List AK} {alts : List Alt} {f : Nat} {fn : Func} {c : Code} {ts : List (Nat × Option TypeId)} (hf : C.P.funcs[f]? = some fn) (hname : (fn.name == "runtime.NumGoroutine") = false) (hbody : fn.body = some c)
  (hres : fn.results = (ts.map rvOf).toArray) (hnt : fn.ntmps = C.nt) (hle : Nat.ble args.length C.nt = true) (hob : C.nob = nObj args) (hobs : alts.all (fun A => Nat.beq A.2.length C.nob) = true)
  {F : ArgT args → Option (AltT alts)} (hF : ∀ x, runFAM C args alts c ts x = F x)   : ContractD dr C.P f (mkSemA args alts F) :=
 contract_ofA hΓ hf hname hbody hres hnt hle hob hobs fun x => by
  rw [← hF x]
  unfold runFA runFAM
  rw [evalCodeM_eq]
  have : (fun s => match loadCells C.P C.nt ts s with | none => none | some s => finA alts (ts.map (·.1)) s) = fun s => (loadCells C.P C.nt ts s).bind fun s => finA alts (ts.map (·.1)) s := funext fun s => by cases loadCells C.P C.nt ts s <;> rfl
  rw [this]

end
end Go.Pv

namespace Go.Pv
noncomputable section
universe u v

theorem Lvs.quiet {dr : Bool} {w : World} {B : Nat → Prop} {rvs : List RV} {rs : List Value} (hent : Ent w B [] []) (h : RsRel w B rvs (rs.map fun v => (v, ⟨none, [], []⟩))) :
  Lvs dr w B [] [] rvs [] (match rs with | [v] => v | l => .tuple l.toArray) w B [] (rs.map fun v => (v, (⟨none, [], []⟩ : PG))) := by
 have hb : ∀ (l : List Value), (l.map fun v => (v, (⟨none, [], []⟩ : PG))).flatMap (fun x => x.2.blocks) = [] := by
  intro l
  induction l with
  | nil => rfl
  | cons v l ih => rw [List.map_cons, List.flatMap_cons, ih]; rfl
 refine ⟨?_, ⟨rfl, rfl⟩, h, ?_, ?_, Nat.le_refl _, ⟨rfl, rfl, rfl, fun _ => Nat.le_refl _⟩, fun b hb => ⟨rfl, hb⟩, hent.bsz, fun b _ hb => .inl hb, fun _ _ _ => rfl, fun x hx => by simp at hx⟩
 ·match rs with
  | [] => rfl
  | [v] => rfl
  | v :: u :: l => simp [Function.comp_def]
 ·rw [hb]; exact List.nodup_nil
 ·rw [hb]; intro b hb; simp at hb

abbrev sgU3 : Sig := ⟨[.val (.int .u64), .val (.int .u64), .val (.int .u64)], [.val (.int .u64), .val (.int .u64)], []⟩

theorem matchArgs_val {t : Ty} {l : List AK} {avs : List AV} {x : ArgT (.val t :: l)} (h : matchArgs (.val t :: l) avs = some x) : ∃ d r, avs = .val d :: r ∧ ∃ f, cv d.ty t = some f ∧ ∃ z, matchArgs l r = some z ∧ x = (f d.val, z) := by
 cases avs with
 | nil => simp [matchArgs] at h
 | cons v r =>
  cases v with
  | val d =>
   simp only [matchArgs] at h
   split at h
   ·obtain ⟨f, h1, h⟩ := bind_some h
    obtain ⟨z, h2, rfl⟩ := Option.map_eq_some_iff.1 h
    exact ⟨d, r, rfl, f, h1, z, h2, rfl⟩
   ·cases h
  | _ => simp [matchArgs] at h

theorem matchArgs_nil {avs : List AV} {x : ArgT []} (h : matchArgs [] avs = some x) : avs = [] := by
 cases avs with
 | nil => rfl
 | cons v r => simp [matchArgs] at h

theorem contract_u3 {dr : Bool} {P : Program} {f : Nat} {fn : Func} {e : Array Value → Sem Value} (hf : P.funcs[f]? = some fn) (hname : (fn.name == "runtime.NumGoroutine") = false)
  (hb : fn.body.isNone = true) (hn : Extern.findNext fn = none) (he : Extern.find fn = some e) {F : Int → Int → Int → Option ((Int × Int × Unit) × Unit)}
  (h : ∀ x y c r, inR .u64 x = true → inR .u64 y = true → inR .u64 c = true → F x y c = some r → inR .u64 r.1.1 = true ∧ inR .u64 r.1.2.1 = true ∧
   ∀ w, (e #[.int .u64 x, .int .u64 y, .int .u64 c]).run P w = .ok (.tuple #[.int .u64 r.1.1, .int .u64 r.1.2.1]) w) :
  ContractD dr P f (mkSem sgU3 fun x => F x.1 x.2.1 x.2.2.1) := by
 refine ⟨?_, fun z h => (by cases h), fun z h => (by cases h)⟩
 intro avs s hs r hr w B os ow vs hent hA
 obtain ⟨x, hx, rfl⟩ := Option.map_eq_some_iff.1 hs
 have hr : F x.1 x.2.1 x.2.2.1 = some r := hr
 obtain ⟨h1, h2, h3⟩ := matchArgs_ok _ avs x hx os ow vs hA (fun y hy => hent.pl y (List.mem_append.2 (.inr hy)))
 obtain ⟨d1, r1, rfl, f1, e1, x1, hx1, rfl⟩ := matchArgs_val hx
 obtain ⟨d2, r2, rfl, f2, e2, x2, hx2, rfl⟩ := matchArgs_val hx1
 obtain ⟨d3, r3, rfl, f3, e3, x3, hx3, rfl⟩ := matchArgs_val hx2
 obtain rfl := matchArgs_nil hx3
 obtain ⟨v1, _, rfl, p1, ⟨q1, a1⟩, v2, _, rfl, p2, ⟨q2, a2⟩, v3, _, rfl, p3, ⟨q3, a3⟩, rfl, rfl, rfl⟩ := hA
 have k1 := cv_rel _ _ _ e1 d1.val _ _ q1
 have k2 := cv_rel _ _ _ e2 d2.val _ _ q2
 have k3 := cv_rel _ _ _ e3 d3.val _ _ q3
 have hag : ∀ (d : Dyn) (g : T d.ty → T (.int .u64)) (v : Value), cv d.ty (.int .u64) = some g → Value.agg? v = d.ty.isAgg → Value.agg? v = false := by
  intro d g v hg hv
  rw [hv]
  obtain ⟨t, z⟩ := d
  cases t <;> first | rfl | (simp [cv, cvB, cvC] at hg)
 obtain ⟨m1, n1, _⟩ := k1
 obtain ⟨m2, n2, _⟩ := k2
 obtain ⟨m3, n3, _⟩ := k3
 have w1 := cells_one m1 (hag _ _ _ e1 a1)
 have w2 := cells_one m2 (hag _ _ _ e2 a2)
 have w3 := cells_one m3 (hag _ _ _ e3 a3)
 subst w1; subst w2; subst w3
 obtain ⟨i1, i2, hrun⟩ := h _ _ _ r n1 n2 n3 hr
 refine .inr ⟨_, by rw [run_callFunc_extern hf hname hb hn he]; show (Sem.run P (e #[_, _, _]) w).andThen _ = _; rw [hrun w]; rfl, B, [], _, Lvs.quiet (rs := [.int .u64 r.1.1, .int .u64 r.1.2.1]) hent ?_⟩
 exact ⟨_, _, _, rfl, ⟨rfl, ⟨⟨rfl, i1, rfl⟩, rfl⟩, rfl⟩, _, _, _, rfl, ⟨rfl, ⟨⟨rfl, i2, rfl⟩, rfl⟩, rfl⟩, rfl⟩

def add64F (x y c : Int) : Option ((Int × Int × Unit) × Unit) := if c ≤ 1 then some (((x + y + c) % 18446744073709551616, (x + y + c) / 18446744073709551616, ()), ()) else none
def sub64F (x y c : Int) : Option ((Int × Int × Unit) × Unit) := if c ≤ 1 then some (((x - y - c) % 18446744073709551616, (if x < y + c then 1 else 0), ()), ()) else none
def add64Sem : CSem := mkSem sgU3 fun x => add64F x.1 x.2.1 x.2.2.1
def sub64Sem : CSem := mkSem sgU3 fun x => sub64F x.1 x.2.1 x.2.2.1

theorem u64_of {n : Int} (h : inR .u64 n = true) : 0 ≤ n ∧ n < 18446744073709551616 := by
 simp [inR, IntKind.min, IntKind.max, IntKind.signed, IntKind.bits] at h
 omega
theorem of_u64 {n : Int} (h0 : 0 ≤ n) (h1 : n < 18446744073709551616) : inR .u64 n = true := by
 simp [inR, IntKind.min, IntKind.max, IntKind.signed, IntKind.bits]
 omega

def sub64Entry : Array Value → Sem Value := fun args => do
 let (x, y, b) ← Extern.MathBitsCarry.three "Sub64" args
 pure (Extern.MathBitsCarry.pair ((x + Extern.MathBitsCarry.m64 - y - b) % Extern.MathBitsCarry.m64) (if x < y + b then 1 else 0))

theorem run_sub64 {P : Program} (x y c : Int) (hx : 0 ≤ x) (hy : 0 ≤ y) (hy1 : y < 18446744073709551616) (hc0 : 0 ≤ c) (hc : c ≤ 1) (w : World) :
  (sub64Entry #[.int .u64 x, .int .u64 y, .int .u64 c]).run P w =
   .ok (.tuple #[.int .u64 ((x - y - c) % 18446744073709551616), .int .u64 (if x < y + c then 1 else 0)]) w := by
 have key : ∀ k : Nat, k ≤ 1 → (sub64Entry #[.int .u64 x, .int .u64 y, .int .u64 (k : Int)]).run P w =
   .ok (Extern.MathBitsCarry.pair ((x.toNat + Extern.MathBitsCarry.m64 - y.toNat - k) % Extern.MathBitsCarry.m64) (if x.toNat < y.toNat + k then 1 else 0)) w := by
  intro k hk
  have : k = 0 ∨ k = 1 := by omega
  rcases this with rfl | rfl <;> rfl
 obtain ⟨k, rfl⟩ := Int.eq_ofNat_of_zero_le hc0
 rw [key k (by omega)]
 obtain ⟨X, rfl⟩ := Int.eq_ofNat_of_zero_le hx
 obtain ⟨Y, rfl⟩ := Int.eq_ofNat_of_zero_le hy
 have e1 : (Int.ofNat ((X + 2 ^ 64 - Y - k) % 2 ^ 64)) = ((X : Int) - Y - k) % 18446744073709551616 := by
  show (((X + 2 ^ 64 - Y - k) % 2 ^ 64 : Nat) : Int) = _
  omega
 have e2 : Int.ofNat (if X < Y + k then 1 else 0) = (if (X : Int) < Y + k then 1 else 0) := by
  by_cases h : X < Y + k
  ·rw [if_pos h, if_pos (by omega)]; rfl
  ·rw [if_neg h, if_neg (by omega)]; rfl
 simp only [Extern.MathBitsCarry.pair, Extern.MathBitsCarry.m64, Int.toNat_natCast]
 rw [e1, e2]

theorem add64_contract {dr : Bool} {P : Program} {f : Nat} {fn : Func} (hf : P.funcs[f]? = some fn) (hname : (fn.name == "runtime.NumGoroutine") = false)
  (hb : fn.body.isNone = true) (hn : Extern.findNext fn = none) (he : Extern.find fn = some add64Entry) : ContractD dr P f add64Sem :=
 contract_u3 hf hname hb hn he fun x y c r hx hy hc hF => by
  unfold add64F at hF
  split at hF
  ·rename_i hc1
   obtain rfl := Option.some.inj hF
   have := u64_of hx; have := u64_of hy; have := u64_of hc
   exact ⟨of_u64 (by simp only; omega) (by simp only; omega), of_u64 (by simp only; omega) (by simp only; omega), fun w => run_add64 x y c (by omega) (by omega) (by omega) hc1 w⟩
  ·cases hF

theorem sub64_contract {dr : Bool} {P : Program} {f : Nat} {fn : Func} (hf : P.funcs[f]? = some fn) (hname : (fn.name == "runtime.NumGoroutine") = false)
  (hb : fn.body.isNone = true) (hn : Extern.findNext fn = none) (he : Extern.find fn = some sub64Entry) : ContractD dr P f sub64Sem :=
 contract_u3 hf hname hb hn he fun x y c r hx hy hc hF => by
  unfold sub64F at hF
  split at hF
  ·rename_i hc1
   obtain rfl := Option.some.inj hF
   have := u64_of hx; have := u64_of hy; have := u64_of hc
   exact ⟨of_u64 (by simp only; omega) (by simp only; omega), of_u64 (by simp only; split <;> omega) (by simp only; split <;> omega), fun w => run_sub64 x y c (by omega) (by omega) (by omega) (by omega) hc1 w⟩
  ·cases hF

end
end Go.Pv

namespace Go.Pv
noncomputable section
universe u v

def idxI (s : List Int) (c : Int) : Int := match (List.range s.length).find? fun i => decide (s.getD i 0 = c) with
 | some i => (i : Int)
 | none => -1

def indexF (s : List Int) (c : Int) : Option ((Int × Unit) × Unit) := some ((idxI s c, ()), ())

abbrev sgIx : Sig := ⟨[.val .str, .val (.int .u8)], [.val (.int .i64)], []⟩
def indexSem : CSem := mkSem sgIx fun x => indexF x.1 x.2.1

theorem find_congr {α : Type} {p q : α → Bool} : ∀ {l : List α}, (∀ x ∈ l, p x = q x) → l.find? p = l.find? q
 | [], _ => rfl
 | x :: l, h => by
  rw [List.find?_cons, List.find?_cons, h x (by simp), find_congr fun y hy => h y (by simp [hy])]

theorem run_index {P : Program} (b : ByteArray) (n : Int) (h0 : 0 ≤ n) (h1 : n < 256) (w : World) : (Extern.BytealgIndexByte.indexByte #[.string b, .int .u8 n]).run P w = .ok (.int .i64 (idxI (bytesOf b) n)) w := by
 have e : Extern.BytealgIndexByte.indexByte #[.string b, .int .u8 n] = (match (List.range b.size).find? fun i => b[i]! == n.toNat.toUInt8 with
  | some i => pure (goInt i)
  | none => pure (goInt (-1))) := rfl
 have hl : (bytesOf b).length = b.size := by unfold bytesOf; rw [List.length_map]; rfl
 have hp : (List.range b.size).find? (fun i => b[i]! == n.toNat.toUInt8) = (List.range (bytesOf b).length).find? fun i => decide ((bytesOf b).getD i 0 = n) := by
  rw [hl]
  refine find_congr fun i hi => ?_
  have hi := List.mem_range.1 hi
  have hi2 : i < b.data.size := hi
  have h2 : b[i]! = b.data[i] := by
   rw [getElem!_pos b i hi]
   rfl
  have h3 : (bytesOf b).getD i 0 = ((b.data[i]).toNat : Int) := by
   unfold bytesOf
   simp [List.getD, Array.getElem?_eq_getElem hi2]
  rw [h2, h3]
  generalize b.data[i] = c
  have hc := c.toNat_lt
  have : (c == n.toNat.toUInt8) = decide (c = n.toNat.toUInt8) := by
   by_cases h : c = n.toNat.toUInt8
   ·rw [decide_eq_true h]; exact beq_iff_eq.2 h
   ·rw [decide_eq_false h]; exact beq_eq_false_iff_ne.2 h
  rw [this]
  refine decide_eq_decide.2 ?_
  rw [← UInt8.toNat_inj]
  have : (n.toNat.toUInt8).toNat = n.toNat % 256 := by simp
  rw [this]
  omega
 rw [e, hp]
 unfold idxI
 split <;> rfl

theorem idxI_range {s : List Int} {c : Int} (hs : s.length ≤ 9223372036854775807) : inR .i64 (idxI s c) = true := by
 have : -1 ≤ idxI s c ∧ idxI s c < 9223372036854775808 := by
  unfold idxI
  split
  ·rename_i i hi
   have := List.mem_range.1 (List.mem_of_find?_eq_some hi)
   omega
  ·omega
 simp [inR, IntKind.min, IntKind.max, IntKind.signed, IntKind.bits]
 omega

theorem cv_agg_of {d : Dyn} {t : Ty} {g : T d.ty → T t} {v : Value} (ht : t.isAgg = false) (hg : cv d.ty t = some g) (hv : Value.agg? v = d.ty.isAgg) : Value.agg? v = false := by
 have h := cv_agg d.ty t g hg
 rw [hv]
 first | exact h.trans ht | exact h.symm.trans ht

theorem index_contract {dr : Bool} {P : Program} {f : Nat} {fn : Func} (hf : P.funcs[f]? = some fn) (hname : (fn.name == "runtime.NumGoroutine") = false)
  (hb : fn.body.isNone = true) (hn : Extern.findNext fn = none) (he : Extern.find fn = some Extern.BytealgIndexByte.indexByte) : ContractD dr P f indexSem := by
 refine ⟨?_, fun z h => (by cases h), fun z h => (by cases h)⟩
 intro avs s hs r hr w B os ow vs hent hA
 obtain ⟨x, hx, rfl⟩ := Option.map_eq_some_iff.1 hs
 have hr : indexF x.1 x.2.1 = some r := hr
 obtain ⟨h1, h2, h3⟩ := matchArgs_ok _ avs x hx os ow vs hA (fun y hy => hent.pl y (List.mem_append.2 (.inr hy)))
 obtain ⟨d1, r1, rfl, f1, e1, x1, hx1, rfl⟩ := matchArgs_val hx
 obtain ⟨d2, r2, rfl, f2, e2, x2, hx2, rfl⟩ := matchArgs_val hx1
 obtain rfl := matchArgs_nil hx2
 obtain ⟨v1, _, rfl, p1, ⟨q1, a1⟩, v2, _, rfl, p2, ⟨q2, a2⟩, rfl, rfl, rfl⟩ := hA
 have k1 := cv_rel _ _ _ e1 d1.val _ _ q1
 have k2 := cv_rel _ _ _ e2 d2.val _ _ q2
 obtain ⟨b, m1, hs1, hl1, _⟩ := k1
 obtain ⟨m2, n2, _⟩ := k2
 have w1 := cells_one m1 (cv_agg_of rfl e1 a1)
 have w2 := cells_one m2 (cv_agg_of rfl e2 a2)
 subst w1; subst w2
 obtain rfl := Option.some.inj hr
 have hn2 := u8_of n2
 have hlen : (f1 d1.val : List Int).length ≤ 9223372036854775807 := by
  have h := bytesOf_length b
  rw [hs1] at h
  rw [h]
  exact hl1
 refine .inr ⟨_, by rw [run_callFunc_extern hf hname hb hn he]; show (Sem.run P (Extern.BytealgIndexByte.indexByte #[_, _]) w).andThen _ = _; rw [run_index b _ hn2.1 hn2.2]; rfl, B, [], _, Lvs.quiet (rs := [.int .i64 (idxI (bytesOf b) (f2 d2.val))]) hent ?_⟩
 have hs1' : f1 d1.val = bytesOf b := hs1.symm
 exact ⟨_, _, _, rfl, ⟨rfl, ⟨⟨by show _ = _; rw [hs1']; rfl, idxI_range hlen, rfl⟩, rfl⟩, rfl⟩, rfl⟩

end
end Go.Pv

namespace Go.Pv
noncomputable section

def joinI : List (List Int) → List Int → List Int
 | [], _ => []
 | x :: r, sep => x ++ (r.map (sep ++ ·)).flatten

def joinF (xs : List (List Int)) (sep : List Int) : Option ((List Int × Unit) × Unit) := if (joinI xs sep).length ≤ 1000000 ∧ xs.length ≤ 1000000 then some ((joinI xs sep, ()), ()) else none

abbrev sgJoin : Sig := ⟨[.val (.slice .str), .val .str], [.val .str], []⟩
def joinSem : CSem := mkSem sgJoin fun x => joinF x.1 x.2.1

end
end Go.Pv

namespace Go.Pv
open Go.ChangeShapes Go.WideShapes Go.ChangeAt Go.RowKit
noncomputable section
universe u v

def fldsIn (P : Program) (f : TypeId → Option Ty) : Nat → List Field → Option Ty
 | _, [] => some .unit
 | off, x :: r => (f x.type).bind fun τ => if Nat.beq x.offset off && Nat.beq (P.cellsOf x.type) τ.size then (fldsIn P f (off + τ.size) r).map fun u => .pair τ u else none

def tyIn (P : Program) : Nat → TypeId → Option Ty
 | 0, _ => none
 | n + 1, t => match P.underlying t with
  | some .bool => some .bool
  | some (.int k) => some (.int k)
  | some .string => some .str
  | some (.slice e) => (tyIn P n e).bind fun τ => if Nat.beq (P.cellsOf e) τ.size && !(Nat.beq τ.size 0) then some (.slice τ) else none
  | some (.struct fs) => (fldsIn P (tyIn P n) 0 fs.toList).bind fun u => if Nat.beq (P.cellsOf t) u.size then some (.agg u) else none
  | some (.array m e) => (tyIn P n e).bind fun τ => if Nat.beq (P.cellsOf e) τ.size && Nat.beq (P.cellsOf t) (m * τ.size) then some (.agg (.arr m τ)) else none
  | _ => none

theorem cell_spot {w : World} {a : Addr} {v : Value} (h : w.cell? a = some v) : a.spot = none ∧ a.block < w.heap.size := by
 unfold World.cell? at h
 split at h
 ·rename_i c e f hb
  cases hs : a.spot with
  | some s => rw [hs] at h; simp at h
  | none => exact ⟨rfl, (Array.getElem?_eq_some_iff.1 hb).1⟩
 ·cases h

theorem addr_add (b o : Nat) (n : Nat) : (⟨b, o, none⟩ : Addr).add n = ⟨b, o + n, none⟩ := by
 unfold Addr.add
 split
 ·rename_i h; subst h; rfl
 ·rfl

theorem mapM_all {α β : Type} {F : α → Option β} : ∀ {l : List α} {r : List β}, l.mapM F = some r → ∀ (i : Nat) x, l[i]? = some x → ∃ y, F x = some y
  | [], _, _, i, x, h => by simp at h
  | z :: l, r, h, i, x, hi => by
    rw [List.mapM_cons] at h
    obtain ⟨y, hy, h⟩ := bind_some h
    obtain ⟨s, hs, _⟩ := bind_some h
    cases i with
    | zero => obtain rfl : z = x := by simpa using hi
              exact ⟨y, hy⟩
    | succ i => exact mapM_all hs i x (by simpa using hi)

theorem mapM_val {α β : Type} {F : α → Option β} : ∀ {l : List α} {r : List β}, l.mapM F = some r → r.length = l.length ∧ ∀ (i : Nat) x, l[i]? = some x → F x = r[i]?
  | [], r, h => by
    simp only [List.mapM_nil] at h
    obtain rfl := Option.some.inj h
    exact ⟨rfl, by simp⟩
  | z :: l, r, h => by
    rw [List.mapM_cons] at h
    obtain ⟨y, hy, h⟩ := bind_some h
    obtain ⟨s, hs, h⟩ := bind_some h
    obtain rfl := Option.some.inj h
    obtain ⟨h1, h2⟩ := mapM_val hs
    refine ⟨by simp [h1], fun i x hi => ?_⟩
    cases i with
    | zero => obtain rfl : z = x := by simpa using hi
              simpa using hy
    | succ i => simpa using h2 i x (by simpa using hi)

section
variable {H : Type} {enc : TypeId × Value → H} {P : Program} {W : World} {sp : Nat → Bool} {held : Bool}

theorem trod_bool {t : TypeId} (hu : P.underlying t = some .bool) {fuel : Nat} {cs : List Value} {z : DataW H × List MemPlace} (ht : DataW.trod enc P W 0 sp held fuel t cs = some z) : ∃ b, cs = [.bool b] := by
 cases fuel with
 | zero => simp [DataW.trod] at ht
 | succ fuel =>
  unfold DataW.trod at ht
  rw [hu] at ht
  rcases cs with _ | ⟨v, _ | ⟨v2, r⟩⟩
  ·simp at ht
  ·cases v <;> first | exact ⟨_, rfl⟩ | (simp at ht; done)
  ·simp at ht

theorem trod_int' {t : TypeId} {k : IntKind} (hu : P.underlying t = some (.int k)) {fuel : Nat} {cs : List Value} {z : DataW H × List MemPlace} (ht : DataW.trod enc P W 0 sp held fuel t cs = some z) : ∃ n, cs = [.int k n] ∧ (Lit.int k n).wf = true := by
 cases fuel with
 | zero => simp [DataW.trod] at ht
 | succ fuel =>
  unfold DataW.trod at ht
  rw [hu] at ht
  rcases cs with _ | ⟨v, _ | ⟨v2, r⟩⟩
  ·simp at ht
  ·cases v <;> first | (simp at ht; done) | skip
   rename_i k' n
   simp only at ht
   split at ht
   ·rename_i h
    obtain ⟨rfl, hw⟩ := h
    exact ⟨n, rfl, hw⟩
   ·cases ht
  ·simp at ht

theorem trod_str {t : TypeId} (hu : P.underlying t = some .string) {fuel : Nat} {cs : List Value} {z : DataW H × List MemPlace} (ht : DataW.trod enc P W 0 sp held fuel t cs = some z) : ∃ s, cs = [.string s] ∧ s.size ≤ maxLen := by
 cases fuel with
 | zero => simp [DataW.trod] at ht
 | succ fuel =>
  unfold DataW.trod at ht
  rw [hu] at ht
  rcases cs with _ | ⟨v, _ | ⟨v2, r⟩⟩
  ·simp at ht
  ·cases v <;> first | (simp at ht; done) | skip
   rename_i s
   simp only at ht
   split at ht
   ·rename_i h
    exact ⟨s, rfl, h⟩
   ·cases ht
  ·simp at ht

theorem trod_str_lit {t : TypeId} (hu : P.underlying t = some .string) {fuel : Nat} {b : ByteArray} {z : DataW H × List MemPlace} (ht : DataW.trod enc P W 0 sp held fuel t [.string b] = some z) : z.1 = .lit (.string b.data.toList) := by
 cases fuel with
 | zero => simp [DataW.trod] at ht
 | succ fuel =>
  unfold DataW.trod at ht
  rw [hu] at ht
  simp only at ht
  split at ht
  ·cases ht; rfl
  ·cases ht

theorem trod_slice' {t e : TypeId} (hu : P.underlying t = some (.slice e)) {fuel : Nat} {cs : List Value} {z : DataW H × List MemPlace} (ht : DataW.trod enc P W 0 sp held (fuel + 1) t cs = some z) : cs = [.slice none 0 0] ∨ ∃ a len cap, cs = [.slice (some a) len cap] ∧ len ≤ cap ∧ cap ≤ maxLen ∧
  ∃ elems : List (DataW H × List MemPlace), (List.range len).mapM (fun i => (W.cells? 0 (a.add (i * P.cellsOf e)) (P.cellsOf e)).bind (DataW.trod enc P W 0 sp held fuel e)) = some elems := by
 unfold DataW.trod at ht
 rw [hu] at ht
 rcases cs with _ | ⟨v, _ | ⟨v2, r⟩⟩
 ·simp at ht
 ·cases v <;> first | (simp at ht; done) | skip
  rename_i a len cap
  cases a with
  | none =>
   split at ht <;> first | (simp at *; done) | skip
   all_goals first | (left; simp_all; done) | skip
  | some a =>
   right
   simp only at ht
   split at ht
   ·rename_i h
    obtain ⟨elems, he, _⟩ := bind_some ht
    exact ⟨a, len, cap, rfl, h.2.1, h.2.2, elems, he⟩
   ·cases ht
 ·simp at ht

theorem lit_inR {k : IntKind} {n : Int} (h : (Lit.int k n).wf = true) : inR k n = true := by
 cases k <;> simpa [Lit.wf, inR] using h

theorem trod_rel : ∀ (n : Nat) (t : TypeId) (τ : Ty), tyIn P n t = some τ → ∀ (fuel : Nat) (cs : List Value) (z : DataW H × List MemPlace), DataW.trod enc P W 0 sp held fuel t cs = some z →
  ∃ x : T τ, Rel W (fun b => b < W.heap.size) τ x cs []
 | 0, _, _, h, _, _, _, _ => by cases h
 | n + 1, t, τ, h, fuel, cs, z, ht => by
  unfold tyIn at h
  split at h
  ·rename_i hu
   obtain rfl := Option.some.inj h
   obtain ⟨b, rfl⟩ := trod_bool hu ht
   exact ⟨b, rfl, rfl⟩
  ·rename_i k hu
   obtain rfl := Option.some.inj h
   obtain ⟨m, rfl, hw⟩ := trod_int' hu ht
   exact ⟨m, rfl, lit_inR hw, rfl⟩
  ·rename_i hu
   obtain rfl := Option.some.inj h
   obtain ⟨s, rfl, hs⟩ := trod_str hu ht
   exact ⟨bytesOf s, s, rfl, rfl, hs, rfl⟩
  ·rename_i e hu
   obtain ⟨τe, hte, h⟩ := bind_some h
   split at h
   ·rename_i hk
    simp only [Bool.and_eq_true, Bool.not_eq_true'] at hk
    obtain rfl := Option.some.inj h
    have hce : P.cellsOf e = τe.size := Nat.eq_of_beq_eq_true hk.1
    have h0 : τe.size ≠ 0 := fun e => by have := hk.2; rw [e] at this; simp at this
    cases fuel with
    | zero => simp [DataW.trod] at ht
    | succ fuel =>
    rcases trod_slice' hu ht with rfl | ⟨a, len, cap, rfl, hlc, hcm, elems, he⟩
    ·exact ⟨[], rfl, _, rfl, none, 0, [], rfl, by simp, by simp [maxLen], by simp, by simp, ⟨rfl, rfl⟩, rfl⟩
    ·
     have helem : ∀ i, i < len → ∃ c, W.cells? 0 (a.add (i * τe.size)) τe.size = some c ∧ ∃ x : T τe, Rel W (fun b => b < W.heap.size) τe x c [] := by
      intro i hi
      obtain ⟨y, hy⟩ := mapM_all he i i (by simp [List.getElem?_range hi])
      obtain ⟨c, hc, hy⟩ := bind_some hy
      rw [hce] at hc
      exact ⟨c, hc, trod_rel n e τe hte fuel c y hy⟩
     have hbuild : ∀ m, m ≤ len → ∃ (xs : List (T τe)) (cells : List Value), xs.length = m ∧ RelL (Rel W (fun b => b < W.heap.size) τe) xs cells [] ∧ cells.length = m * τe.size ∧ (0 < m → a.spot = none ∧ a.block < W.heap.size) ∧ Rows W a.block a.off cells := by
      intro m
      induction m with
      | zero => intro _; exact ⟨[], [], rfl, ⟨rfl, rfl⟩, by simp, by simp, by intro i v hi; simp at hi⟩
      | succ m ih =>
       intro hm
       obtain ⟨xs, cells, h1, h2, h3, h4, h5⟩ := ih (by omega)
       obtain ⟨c, hc, x, hx⟩ := helem m (by omega)
       have hcl := Rel_length W _ _ _ _ _ hx
       unfold World.cells? at hc
       rw [if_pos (by omega)] at hc
       obtain ⟨hl, hg⟩ := mapM_val hc
       have hcell : ∀ j, j < τe.size → W.cell? ((a.add (m * τe.size)).add j) = c[j]? := fun j hj => hg j j (by simp [List.getElem?_range hj])
       have hspot : a.spot = none ∧ a.block < W.heap.size := by
        have h00 := hcell 0 (Nat.pos_of_ne_zero h0)
        have hlt : 0 < c.length := by rw [hcl]; exact Nat.pos_of_ne_zero h0
        rw [List.getElem?_eq_getElem hlt] at h00
        obtain ⟨k1, k2⟩ := cell_spot h00
        cases m with
        | zero =>
         simp only [Nat.zero_mul, Addr.add, if_true] at k1 k2
         exact ⟨k1, k2⟩
        | succ m => exact h4 (by omega)
       obtain ⟨bl, off, spt⟩ := a
       have hsp : spt = none := hspot.1
       subst hsp
       refine ⟨xs ++ [x], cells ++ c, by simp [h1], ?_, by rw [List.length_append, h3, hcl, Nat.add_mul, Nat.one_mul], fun _ => hspot, ?_⟩
       ·have := RelL_append xs [x] cells c [] [] h2 ⟨c, [], [], [], by simp, rfl, hx, rfl, rfl⟩
        simpa using this
       ·intro i v hi
        by_cases hlt : i < cells.length
        ·rw [List.getElem?_append_left hlt] at hi
         exact h5 i v hi
        ·rw [List.getElem?_append_right (by omega)] at hi
         have hj : i - cells.length < τe.size := by have := (List.getElem?_eq_some_iff.1 hi).1; omega
         have := hcell (i - cells.length) hj
         rw [addr_add, addr_add] at this
         rw [hi] at this
         rw [show off + i = off + m * τe.size + (i - cells.length) by omega]
         exact this
     obtain ⟨xs, cells, h1, h2, h3, h4, h5⟩ := hbuild len (Nat.le_refl _)
     refine ⟨xs, rfl, _, rfl, some a, cap, cells, by rw [h1], by rw [h1]; exact hlc, hcm, by simp, by rw [h3, h1], h2, ?_⟩
     by_cases hl : len = 0
     ·left; exact List.eq_nil_of_length_eq_zero (by rw [h1, hl])
     ·right
      obtain ⟨k1, k2⟩ := h4 (by omega)
      exact ⟨k1, k2, h5⟩
   ·cases h
  ·rename_i fs hu
   obtain ⟨u, hu', h⟩ := bind_some h
   split at h
   ·rename_i hk
    have hk := Nat.eq_of_beq_eq_true hk
    obtain rfl := Option.some.inj h
    cases fuel with
    | zero => simp [DataW.trod] at ht
    | succ fuel =>
    simp only [DataW.trod, hu] at ht
    split at ht
    ·rename_i hl
     obtain ⟨xs, hxs, rfl⟩ := Option.map_eq_some_iff.1 ht
     have key : ∀ (fl : List Field) (off : Nat) (u : Ty) (xs : List (DataW H × List MemPlace)), fldsIn P (tyIn P n) off fl = some u → off + u.size = cs.length →
       fl.mapM (fun f => DataW.trod enc P W 0 sp held fuel f.type ((cs.drop f.offset).take (P.cellsOf f.type))) = some xs → ∃ x : T u, Rel W (fun b => b < W.heap.size) u x (cs.drop off) [] := by
      intro fl
      induction fl with
      | nil =>
       intro off u xs h1 h2 _
       obtain rfl := Option.some.inj h1
       exact ⟨(), List.drop_eq_nil_of_le (by simp only [Ty.size] at h2; omega), rfl⟩
      | cons f fl ih =>
       intro off u xs h1 h2 h3
       simp only [fldsIn] at h1
       obtain ⟨τ, hτ, h1⟩ := bind_some h1
       split at h1
       ·rename_i hb
        simp only [Bool.and_eq_true] at hb
        have hb1 := Nat.eq_of_beq_eq_true hb.1
        have hb2 := Nat.eq_of_beq_eq_true hb.2
        obtain ⟨u', hu', rfl⟩ := Option.map_eq_some_iff.1 h1
        rw [List.mapM_cons] at h3
        obtain ⟨y, hy, h3⟩ := bind_some h3
        obtain ⟨ys, hys, _⟩ := bind_some h3
        simp only [Ty.size] at h2
        rw [hb1, hb2] at hy
        obtain ⟨x1, k1⟩ := trod_rel n f.type τ hτ fuel _ y hy
        obtain ⟨x2, k2⟩ := ih (off + τ.size) u' ys hu' (by omega) hys
        refine ⟨(x1, x2), _, _, [], [], ?_, rfl, k1, k2⟩
        rw [← List.drop_drop, List.take_append_drop]
       ·cases h1
     obtain ⟨x, hx⟩ := key fs.toList 0 u xs hu' (by rw [Nat.zero_add, hl, hk]) hxs
     exact ⟨x, hx⟩
    ·cases ht
   ·cases h
  ·rename_i m e hu
   obtain ⟨τe, hte, h⟩ := bind_some h
   split at h
   ·rename_i hk
    simp only [Bool.and_eq_true] at hk
    have hce : P.cellsOf e = τe.size := Nat.eq_of_beq_eq_true hk.1
    have hct : P.cellsOf t = m * τe.size := Nat.eq_of_beq_eq_true hk.2
    obtain rfl := Option.some.inj h
    cases fuel with
    | zero => simp [DataW.trod] at ht
    | succ fuel =>
    simp only [DataW.trod, hu] at ht
    split at ht
    ·rename_i hl
     obtain ⟨zs, hzs, rfl⟩ := Option.map_eq_some_iff.1 ht
     have helem : ∀ i, i < m → ∃ x : T τe, Rel W (fun b => b < W.heap.size) τe x ((cs.drop (i * τe.size)).take τe.size) [] := by
      intro i hi
      obtain ⟨y, hy⟩ := mapM_all hzs i i (by simp [List.getElem?_range hi])
      rw [hce] at hy
      exact trod_rel n e τe hte fuel _ y hy
     have hbuild : ∀ k, k ≤ m → ∃ xs : List (T τe), xs.length = k ∧ RelL (Rel W (fun b => b < W.heap.size) τe) xs (cs.take (k * τe.size)) [] := by
      intro k
      induction k with
      | zero => intro _; exact ⟨[], rfl, by rw [Nat.zero_mul, List.take_zero]; exact ⟨rfl, rfl⟩⟩
      | succ k ih =>
       intro hm
       obtain ⟨xs, h1, h2⟩ := ih (by omega)
       obtain ⟨x, hx⟩ := helem k (by omega)
       refine ⟨xs ++ [x], by simp [h1], ?_⟩
       have := RelL_append xs [x] _ ((cs.drop (k * τe.size)).take τe.size) [] [] h2 ⟨(cs.drop (k * τe.size)).take τe.size, [], [], [], by simp, rfl, hx, rfl, rfl⟩
       rw [show (k + 1) * τe.size = k * τe.size + τe.size by rw [Nat.add_mul, Nat.one_mul], List.take_add]
       simpa using this
     obtain ⟨xs, h1, h2⟩ := hbuild m (Nat.le_refl _)
     rw [← hct, ← hl, List.take_length] at h2
     exact ⟨xs, h1, h2⟩
    ·cases ht
   ·cases h
  ·cases h

def argsIn (P : Program) : List TypeId → Option (List AK)
 | [] => some []
 | t :: ts => (tyIn P 12 t).bind fun τ => (argsIn P ts).map fun l => .val τ :: l

def Wf : (t : Ty) → T t → Prop
 | .int k, n => inR k n = true
 | .bool, _ => True
 | .str, s => (∀ b ∈ (s : List Int), 0 ≤ b ∧ b < 256) ∧ List.length (α := Int) s ≤ maxLen
 | .unit, _ => True
 | .pair a b, x => Wf a x.1 ∧ Wf b x.2
 | .agg a, x => Wf a x
 | .arr n e, xs => List.length (α := T e) xs = n ∧ ∀ x ∈ (xs : List (T e)), Wf e x
 | .slice e, xs => List.length (α := T e) xs ≤ maxLen ∧ ∀ x ∈ (xs : List (T e)), Wf e x
 | .ptr t, o => ∀ x, (o : Option (T t)) = some x → Wf t x
 | _, _ => True

theorem RelL_wf {α : Type} {R : α → List Value → List Nat → Prop} {Q : α → Prop} (h : ∀ x cs F, R x cs F → Q x) : ∀ {xs : List α} {cs F}, RelL R xs cs F → ∀ x ∈ xs, Q x
 | [], _, _, _, x, hx => by cases hx
 | y :: xs, _, _, ⟨c1, c2, F1, F2, _, _, h1, h2⟩, x, hx => by
  rcases List.mem_cons.1 hx with rfl | hx
  ·exact h _ _ _ h1
  ·exact RelL_wf h h2 x hx

theorem Rel_wf {w : World} {B : Nat → Prop} : ∀ (t : Ty) (x : T t) cs F, Rel w B t x cs F → Wf t x
 | .int k, n, _, _, h => h.2.1
 | .bool, _, _, _, _ => trivial
 | .str, s, _, _, ⟨b, _, hs, hl, _⟩ => by
  subst hs
  refine ⟨fun c hc => ?_, by rw [bytesOf_length]; exact hl⟩
  unfold bytesOf at hc
  obtain ⟨u, _, rfl⟩ := List.mem_map.1 hc
  have := u.toNat_lt
  omega
 | .unit, _, _, _, _ => trivial
 | .pair a b, x, _, _, ⟨_, _, _, _, _, _, h1, h2⟩ => ⟨Rel_wf a _ _ _ h1, Rel_wf b _ _ _ h2⟩
 | .agg a, x, cs, F, h => Rel_wf a x cs F h
 | .arr n e, xs, _, _, h => ⟨h.1, RelL_wf (fun x cs F h => Rel_wf e x cs F h) h.2⟩
 | .slice e, xs, _, _, ⟨_, _, _, _, _, _, _, h1, h2, _, _, h3, _⟩ => ⟨Nat.le_trans h1 h2, RelL_wf (fun x cs F h => Rel_wf e x cs F h) h3⟩
 | .ptr t, o, cs, F, h => by
  intro x hx
  have hx : o = some x := hx
  subst hx
  obtain ⟨_, _, _, _, _, _, _, h4⟩ := h
  exact Rel_wf t x _ _ h4
 | .own _, _, _, _, _ => trivial
 | .app _, _, _, _, _ => trivial
 | .junk, _, _, _, _ => trivial
 | .box _, _, _, _, _ => trivial
 | .nils _, _, _, _, _ => trivial
 | .nilp, _, _, _, _ => trivial
 | .nili, _, _, _, _ => trivial
 | .alt _ _ _, _, _, _, _ => trivial
 | .iter, _, _, _, _ => trivial

def WfA : (l : List AK) → ArgT l → Prop
 | [], _ => True
 | .val t :: l, x => Wf t x.1 ∧ WfA l x.2
 | .obj t :: l, x => Wf t x.1 ∧ WfA l x.2
 | .ref t :: l, x => Wf t x.1 ∧ WfA l x.2
 | .fnc _ :: l, x => WfA l x
 | .fno _ t :: l, x => Wf t x.1 ∧ WfA l x.2
 | .own t :: l, x => Wf t x.1 ∧ WfA l x.2

def SzA : (l : List AK) → ArgT l → Prop
 | [], _ => True
 | .val .str :: l, x => List.length (α := Int) x.1 ≤ reachBytes ∧ SzA l x.2
 | .val _ :: l, x => SzA l x.2
 | _, _ => True

theorem cv_self : ∀ τ : Ty, cv τ τ = some id
 | .pair a b => by simp only [cv, cv_self a, cv_self b, Option.bind_some, Option.map_some]; rfl
 | .agg a => by simp only [cv]; exact cv_self a
 | .int _ | .bool | .str | .unit | .arr _ _ | .slice _ | .own _ | .app _ | .junk | .ptr _ | .box _ | .nils _ | .nilp | .nili | .alt _ _ _ | .iter => by first | (simp [cv, cvB]; done) | (simp [cv, cvB]; rfl)

theorem fldsIn_pure {P : Program} {f : TypeId → Option Ty} (hf : ∀ t τ, f t = some τ → τ.pure = true) : ∀ (l : List Field) (off : Nat) (u : Ty), fldsIn P f off l = some u → u.pure = true
 | [], _, u, h => by obtain rfl := Option.some.inj h; rfl
 | x :: l, off, u, h => by
  simp only [fldsIn] at h
  obtain ⟨τ, hτ, h⟩ := bind_some h
  split at h
  ·obtain ⟨u', hu', rfl⟩ := Option.map_eq_some_iff.1 h
   simp only [Ty.pure, hf _ _ hτ, fldsIn_pure hf l _ _ hu', Bool.and_self]
  ·cases h

theorem tyIn_pure {P : Program} : ∀ (n : Nat) (t : TypeId) (τ : Ty), tyIn P n t = some τ → τ.pure = true
 | 0, t, τ, h => by cases h
 | n + 1, t, τ, h => by
  unfold tyIn at h
  split at h
  ·obtain rfl := Option.some.inj h; rfl
  ·obtain rfl := Option.some.inj h; rfl
  ·obtain rfl := Option.some.inj h; rfl
  ·obtain ⟨τe, hte, h⟩ := bind_some h
   split at h
   ·obtain rfl := Option.some.inj h
    show τe.pure = true
    exact tyIn_pure n _ _ hte
   ·cases h
  ·obtain ⟨u, hu, h⟩ := bind_some h
   split at h
   ·obtain rfl := Option.some.inj h
    show u.pure = true
    exact fldsIn_pure (fun t τ h => tyIn_pure n t τ h) _ _ _ hu
   ·cases h
  ·obtain ⟨τe, hte, h⟩ := bind_some h
   split at h
   ·obtain rfl := Option.some.inj h
    show τe.pure = true
    exact tyIn_pure n _ _ hte
   ·cases h
  ·cases h

theorem args_rel {H : Type} {enc : TypeId × Value → H} {P : Program} {W : World} {base : Nat} : ∀ (ts : List TypeId) (l : List AK), argsIn P ts = some l → ∀ (vs : List Value) (ds : List (DataW H)) (ps : List MemPlace), DataW.TrodAll enc P W 0 (fun _ => true) true ts vs ds ps →
  (∀ (j : Nat) t v, ts[j]? = some t → vs[j]? = some v → Value.okWide P W .any base t v) → ∃ (avs : List AV) (x : ArgT l), matchArgs l avs = some x ∧ WfA l x ∧ ((DataW.weightsEach P ts ds).all (· ≤ reachBytes) = true → SzA l x) ∧ ARel W (fun b => b < W.heap.size) avs [] [] vs
 | [], l, h, [], [], _, _, _ => by
  obtain rfl := Option.some.inj h
  exact ⟨[], (), rfl, trivial, fun _ => trivial, rfl, rfl, rfl⟩
 | [], _, _, _ :: _, _, _, ht, _ => by simp [DataW.TrodAll] at ht
 | [], _, _, [], _ :: _, _, ht, _ => by simp [DataW.TrodAll] at ht
 | _ :: _, _, _, [], _, _, ht, _ => by simp [DataW.TrodAll] at ht
 | _ :: _, _, _, _ :: _, [], _, ht, _ => by simp [DataW.TrodAll] at ht
 | t :: ts, l, h, v :: vs, d :: ds, ps, ht, hok => by
  simp only [argsIn] at h
  obtain ⟨τ, hτ, h⟩ := bind_some h
  obtain ⟨l', hl', rfl⟩ := Option.map_eq_some_iff.1 h
  obtain ⟨p, q, ⟨fuel, h1⟩, h2, _⟩ := ht
  obtain ⟨avs, x, k1, k2, kz, k3⟩ := args_rel ts l' hl' vs ds q h2 (fun j t v hj hv => hok (j + 1) t v (by simpa using hj) (by simpa using hv))
  obtain ⟨y, hy⟩ := trod_rel 12 t τ hτ fuel v.cells.toList (d, p) h1
  have hp := tyIn_pure 12 t τ hτ
  have hcv := cv_self τ
  have hva : Value.agg? v = τ.isAgg := by
   have hov := hok 0 t v rfl rfl
   unfold Value.okWide at hov
   have hna : ∀ cs, Cell.okWide P W .any base t (.agg cs) → (∃ k, P.underlying t = some (.int k)) ∨ P.underlying t = some .bool ∨ P.underlying t = some .string ∨ (∃ e, P.underlying t = some (.slice e)) → False := by
    intro cs hov h
    rcases h with ⟨k, hu⟩ | hu | hu | ⟨e, hu⟩ <;> simp [Cell.okWide, hu, Cell.ok] at hov
   unfold tyIn at hτ
   split at hτ
   ·rename_i hu
    obtain rfl := Option.some.inj hτ
    rw [hu] at hov
    cases v <;> first | rfl | exact (hna _ hov (.inr (.inl hu))).elim
   ·rename_i k hu
    obtain rfl := Option.some.inj hτ
    rw [hu] at hov
    cases v <;> first | rfl | exact (hna _ hov (.inl ⟨k, hu⟩)).elim
   ·rename_i hu
    obtain rfl := Option.some.inj hτ
    rw [hu] at hov
    cases v <;> first | rfl | exact (hna _ hov (.inr (.inr (.inl hu)))).elim
   ·rename_i e hu
    obtain ⟨τe, hte, h⟩ := bind_some hτ
    split at h
    ·obtain rfl := Option.some.inj h
     rw [hu] at hov
     cases v <;> first | rfl | exact (hna _ hov (.inr (.inr (.inr ⟨e, hu⟩)))).elim
    ·cases h
   ·rename_i fs hu
    obtain ⟨u, hu', h⟩ := bind_some hτ
    split at h
    ·obtain rfl := Option.some.inj h
     rw [hu] at hov
     obtain ⟨cs, rfl, _⟩ := hov
     rfl
    ·cases h
   ·rename_i m e hu
    obtain ⟨τe, hte, h⟩ := bind_some hτ
    split at h
    ·obtain rfl := Option.some.inj h
     rw [hu] at hov
     obtain ⟨cs, rfl, _⟩ := hov
     rfl
    ·cases h
   ·cases hτ
  have hsz : (DataW.weightsEach P (t :: ts) (d :: ds)).all (· ≤ reachBytes) = true → SzA (.val τ :: l') (y, x) := fun hz => by
   have hz2 : (DataW.weightsEach P ts ds).all (· ≤ reachBytes) = true := by
    simp only [DataW.weightsEach, List.all_append, Bool.and_eq_true] at hz
    exact hz.2
   have hz1 := kz hz2
   cases τ with
   | str =>
    refine ⟨?_, hz1⟩
    have hu : P.underlying t = some .string := by
     unfold tyIn at hτ
     split at hτ <;> first | assumption | skip
     ·cases hτ
     ·cases hτ
     ·obtain ⟨_, _, h⟩ := bind_some hτ
      split at h <;> cases h
     ·obtain ⟨_, _, h⟩ := bind_some hτ
      split at h <;> cases h
     ·obtain ⟨_, _, h⟩ := bind_some hτ
      split at h <;> cases h
     ·cases hτ
    obtain ⟨b, hb, hbs, _, _⟩ := hy
    rw [hb] at h1
    have hd := trod_str_lit hu h1
    have hw : b.size ≤ reachBytes := by
     have := sized_string (P := P) (ts := t :: ts) (ds := d :: ds) hz (j := 0) rfl (bytes := b.data.toList) (congrArg some hd)
     rw [Array.length_toList] at this
     exact this
    show List.length (α := Int) y ≤ _
    rw [← hbs, bytesOf_length]
    exact hw
   | _ => exact hz1
  refine ⟨.val ⟨τ, y⟩ :: avs, (y, x), ?_, ⟨Rel_wf τ y _ _ hy, k2⟩, hsz, v, vs, rfl, hp, ⟨hy, hva⟩, k3⟩
  simp only [matchArgs, hp, if_true, hcv, Option.bind_some, k1, Option.map_some]
  rfl

theorem Runs.calls {P : Program} {f : Nat} {vs : Array Value} {w : World} {R : Value → World → Prop} (h : Runs P f vs w R) {fn : Func} (hf : P.funcs[f]? = some fn) (hname : (fn.name == "runtime.NumGoroutine") = false) (hb : fn.body.isNone = false) :
  Calls P f vs w fun
   | .returned v, w' => R v w'
   | _, _ => False := by
 rcases h with ⟨_, h⟩ | ⟨v, h, _⟩
 ·exact h
 ·rw [run_callFunc_body hf hname hb] at h; cases h

theorem law_callsG {H : Type} {enc : TypeId × Value → H} {P : Program} {f : FuncId} {fn : Func} {s : ChangeSpec} {l : List AK} {F : ArgT l → Option (ResT [.val .bool] × ObjT [])} (hcon : Contract P f (mkSem ⟨l, [.val .bool], []⟩ F)) (hf : P.funcs[f]? = some fn) (hname : (fn.name == "runtime.NumGoroutine") = false) (hbody : fn.body.isNone = false)
  (hin : argsIn P fn.params.toList = some l) (hlaid : laidOutB P = true) (hread : fn.params.toList.all (fun t => P.readableRec t && decide (t < P.types.size)) = true) {tb : TypeId} (hres : fn.resultTypes = #[tb]) (hb : P.underlying tb = some .bool) (hvars : s.vars = [])
  (hspec : ∀ ds : List (DataW H), ds.length = fn.params.toList.length → s.fn H ds = ⟨[.lit (.bool true)], ds, []⟩)
  {W : World} {base : Nat} {args : Array Value} {ds gs : List (DataW H)} {before : List MemPlace} (hval : ∀ (j : Nat) t v, fn.params[j]? = some t → args[j]? = some v → Value.okWide P W .any base t v)
  (hW : DataW.Whole enc P fn.params.toList s.vars false W args.toList ds gs before)
  (hlaw : ∀ x, WfA l x → ((DataW.weightsEach P fn.params.toList ds).all (· ≤ reachBytes) = true → SzA l x) → F x = some ((true, ()), ())) : Calls P f args W fun e W' => ∃ v, e = .returned v ∧ s.post enc P fn false true false false W args v W' := by
 obtain ⟨p, q, hA, hV, hpq, hfz, hnd⟩ := id hW
 obtain ⟨avs, x, h1, h2, hz, h3⟩ := args_rel fn.params.toList l hin args.toList ds p hA (fun j t v hj hv => hval j t v (by simpa using hj) (by simpa using hv))
 have hent : Ent W (fun b => b < W.heap.size) [] [] := ⟨fun _ h => h, by simp, by simp, by simp, by simp, by simp [Obs.ob]⟩
 have hc0 := hcon.call avs ⟨[([.val .bool], [])], F x⟩ (by simp only [mkSem, mkSemA, h1, Option.map_some]) ((true, ()), ()) (hlaw x h2 hz) W (fun b => b < W.heap.size) [] [] args.toList hent h3
 have hargs : args.toList.toArray = args := by simp
 rw [hargs] at hc0
 have hc := hc0.calls hf hname hbody
 refine Calls.mono hc fun e W' he => ?_
 cases e with
 | panicked c => exact he.elim
 | outgrown => exact he.elim
 | returned v =>
  obtain ⟨B', gs', rs, hL⟩ := he
  refine ⟨v, rfl, ?_⟩
  have hrs := hL.res
  simp only [resL, RK.rv] at hrs
  obtain ⟨v1, g1, t1, hr1, ⟨_, ⟨⟨hv1, _⟩, hva⟩, _⟩, ht1⟩ := hrs
  have ht1 : t1 = [] := ht1
  subst ht1
  subst hr1
  have hvv := hL.val
  have hvb : v = .bool true := by
   simp only at hvv
   rw [hvv]; exact cells_one hv1 hva
  subst hvb
  have hbelow : Below W.heap.size W W' := ⟨hL.rest.2.1, hL.rest.1, hL.rest.2.2.1, hL.size, fun k hk => (hL.keep k hk).1⟩
  have hlen : ds.length = fn.params.toList.length := by
   have key : ∀ (ts : List TypeId) (vs : List Value) (ds : List (DataW H)) (p : List MemPlace), DataW.TrodAll enc P W 0 (fun _ => true) true ts vs ds p → ds.length = ts.length := by
    intro ts
    induction ts with
    | nil => intro vs ds p h; cases vs <;> cases ds <;> first | rfl | (simp [DataW.TrodAll] at h)
    | cons t ts ih =>
     intro vs ds p h
     cases vs with
     | nil => simp [DataW.TrodAll] at h
     | cons v vs =>
      cases ds with
      | nil => simp [DataW.TrodAll] at h
      | cons d ds =>
       obtain ⟨_, _, _, h2, _⟩ := h
       simp [ih vs ds _ h2]
   exact key _ _ _ _ hA
  rw [hvars] at hV
  have hgs : gs = [] ∧ q = [] := by
   cases gs with
   | nil => exact ⟨rfl, by simpa [DataW.TrodVars] using hV⟩
   | cons g gs => simp [DataW.TrodVars] at hV
  obtain ⟨rfl, rfl⟩ := hgs
  have hlt : ∀ y ∈ before, y.block < W.heap.size := fun y hy => hW.lt y hy
  have hpb : before = p := by rw [hpq, List.append_nil]
  have hrr : ∀ t ∈ fn.params.toList, P.readableRec t = true ∧ t < P.types.size := by
   intro t ht
   have := List.all_eq_true.1 hread t ht
   simpa using this
  have hstay : DataW.TrodAll enc P W' 0 (fun b => decide (b < W.heap.size)) true fn.params.toList args.toList ds p := by
   have key : ∀ (ts : List TypeId) (vs : List Value) (ds : List (DataW H)) (p : List MemPlace), (∀ t ∈ ts, P.readableRec t = true ∧ t < P.types.size) → (∀ y ∈ p, y.block < W.heap.size) → DataW.TrodAll enc P W 0 (fun _ => true) true ts vs ds p → DataW.TrodAll enc P W' 0 (fun b => decide (b < W.heap.size)) true ts vs ds p := by
    intro ts
    induction ts with
    | nil => intro vs ds p _ _ h; cases vs <;> cases ds <;> first | exact h | (simp [DataW.TrodAll] at h)
    | cons t ts ih =>
     intro vs ds p hr hp h
     cases vs with
     | nil => simp [DataW.TrodAll] at h
     | cons v vs =>
      cases ds with
      | nil => simp [DataW.TrodAll] at h
      | cons d ds =>
       obtain ⟨p1, p2, h1, h2, rfl⟩ := h
       obtain ⟨k1, k2⟩ := hr t (by simp)
       exact ⟨p1, p2, Below.trod hlaid k1 k2 h1 hbelow (fun y hy => hp y (by simp [hy])), ih vs ds p2 (fun t ht => hr t (by simp [ht])) (fun y hy => hp y (by simp [hy])) h2, rfl⟩
   exact key _ _ _ _ hrr (fun y hy => hlt y (by rw [hpb]; exact hy)) hA
  have hsp := hspec (ds ++ []) (by rw [List.append_nil]; exact hlen)
  refine ⟨ds, [], before, [], p, [], hW, ?_, ?_, ?_, hbelow.frame _, by intro h; cases h⟩
  ·rw [hsp, hres]
   exact trodAll_mk1 (shut_bool hb true)
  ·rw [hsp]
   simpa using hstay
  ·rw [hsp, hvars]
   simp [DataW.TrodVars]

theorem law_calls {H : Type} {enc : TypeId × Value → H} {P : Program} {f : FuncId} {fn : Func} {s : ChangeSpec} {l : List AK} {F : ArgT l → Option (ResT [.val .bool] × ObjT [])} (hcon : Contract P f (mkSem ⟨l, [.val .bool], []⟩ F)) (hf : P.funcs[f]? = some fn) (hname : (fn.name == "runtime.NumGoroutine") = false) (hbody : fn.body.isNone = false)
  (hin : argsIn P fn.params.toList = some l) (hlaid : laidOutB P = true) (hread : fn.params.toList.all (fun t => P.readableRec t && decide (t < P.types.size)) = true) {tb : TypeId} (hres : fn.resultTypes = #[tb]) (hb : P.underlying tb = some .bool) (hvars : s.vars = [])
  (hspec : ∀ ds : List (DataW H), ds.length = fn.params.toList.length → s.fn H ds = ⟨[.lit (.bool true)], ds, []⟩) (hlaw : ∀ x, WfA l x → F x = some ((true, ()), ()))
  {W : World} {base : Nat} {args : Array Value} {ds gs : List (DataW H)} {before : List MemPlace} (hval : ∀ (j : Nat) t v, fn.params[j]? = some t → args[j]? = some v → Value.okWide P W .any base t v)
  (hW : DataW.Whole enc P fn.params.toList s.vars false W args.toList ds gs before) : Calls P f args W fun e W' => ∃ v, e = .returned v ∧ s.post enc P fn false true false false W args v W' :=
 law_callsG hcon hf hname hbody hin hlaid hread hres hb hvars hspec hval hW fun x hx _ => hlaw x hx

end
end
end Go.Pv

namespace Go.Pv
noncomputable section

abbrev CmpF (e : Ty) : Type := ArgT [.val e, .val e] → Option (ResT [.val (.int .i64)] × ObjT [])

def cmpV {e : Ty} (F : CmpF e) (x y : T e) : Int := match F (x, y, ()) with
 | some r => r.1.1
 | none => 0

structure SortOk (e : Ty) (F : CmpF e) (xs : List (T e)) : Prop where
 some : ∀ x y, x ∈ xs → y ∈ xs → (F (x, y, ())).isSome = true
 irrefl : ∀ x, x ∈ xs → ¬ cmpV F x x < 0
 trans : ∀ x y z, x ∈ xs → y ∈ xs → z ∈ xs → cmpV F x y < 0 → cmpV F y z < 0 → cmpV F x z < 0
 ntrans : ∀ x y z, x ∈ xs → y ∈ xs → z ∈ xs → ¬ cmpV F x y < 0 → ¬ cmpV F y z < 0 → ¬ cmpV F x z < 0
 total : ∀ x y, x ∈ xs → y ∈ xs → ¬ cmpV F x y < 0 → ¬ cmpV F y x < 0 → x = y

def paySem (at_ : Nat) : CSem := ⟨fun _ => false, fun _ => none, none, some at_⟩

end
end Go.Pv

namespace Go.Pv
noncomputable section

theorem iter_det {σ ρ : Type} {f : σ → Option (σ ⊕ ρ)} : ∀ {n m : Nat} {x : σ} {r s : ρ}, iter f n x = some r → iter f m x = some s → r = s
 | 0, _, _, _, _, h, _ => by cases h
 | _ + 1, 0, _, _, _, _, h => by cases h
 | n + 1, m + 1, x, r, s, h1, h2 => by
  simp only [iter] at h1 h2
  cases hf : f x with
  | none => rw [hf] at h1; cases h1
  | some z =>
   rw [hf] at h1 h2
   cases z with
   | inr y => exact (Option.some.inj h1).symm.trans (Option.some.inj h2)
   | inl y => exact iter_det h1 h2

theorem loopR_of {σ ρ : Type} {f : σ → Option (σ ⊕ ρ)} {x : σ} {r : ρ} {n : Nat} (h : iter f n x = some r) : loopR f x = some r := by
 unfold loopR
 have hx : ∃ n r, iter f n x = some r := ⟨n, r, h⟩
 rw [dif_pos hx]
 exact congrArg some (iter_det (Classical.choose_spec (Classical.choose_spec hx)) h)

theorem loopR_out {σ ρ : Type} {f : σ → Option (σ ⊕ ρ)} {x : σ} {r : ρ} (h : f x = some (.inr r)) : loopR f x = some r := loopR_of (n := 1) (by simp [iter, h])

theorem loopR_on {σ ρ : Type} {f : σ → Option (σ ⊕ ρ)} {x y : σ} {r : ρ} (h : f x = some (.inl y)) (hy : loopR f y = some r) : loopR f x = some r := by
 obtain ⟨n, hn⟩ : ∃ n, iter f n y = some r := by
  unfold loopR at hy
  split at hy
  ·rename_i hx
   obtain rfl := Option.some.inj hy
   exact ⟨_, Classical.choose_spec (Classical.choose_spec hx)⟩
  ·cases hy
 exact loopR_of (n := n + 1) (by simp [iter, h, hn])

theorem loopR_inv {σ ρ : Type} {f : σ → Option (σ ⊕ ρ)} (I : σ → Prop) (μ : σ → Nat) (R : ρ → Prop) (step : ∀ x, I x → (∃ r, f x = some (.inr r) ∧ R r) ∨ ∃ y, f x = some (.inl y) ∧ I y ∧ μ y < μ x) {x : σ} (h : I x) : ∃ r, loopR f x = some r ∧ R r := by
 have key : ∀ n x, μ x = n → I x → ∃ r, loopR f x = some r ∧ R r := by
  intro n
  induction n using Nat.strongRecOn with
  | _ n ih =>
   intro x hn hI
   rcases step x hI with ⟨r, h1, h2⟩ | ⟨y, h1, h2, h3⟩
   ·exact ⟨r, loopR_out h1, h2⟩
   ·obtain ⟨r, h4, h5⟩ := ih (μ y) (hn ▸ h3) y rfl h2
    exact ⟨r, loopR_on h1 h4, h5⟩
 exact key _ x rfl h

theorem wrap_u64 {n : Int} (h0 : 0 ≤ n) (h1 : n < 18446744073709551616) : IntKind.u64.wrap n = n := by
 simp only [IntKind.wrap, IntKind.signed, IntKind.bits]
 simp
 omega
theorem wrap_u8 {n : Int} (h0 : 0 ≤ n) (h1 : n < 256) : IntKind.u8.wrap n = n := by
 simp only [IntKind.wrap, IntKind.signed, IntKind.bits]
 simp
 omega
theorem wrap_i64 {n : Int} (h0 : -9223372036854775808 ≤ n) (h1 : n < 9223372036854775808) : IntKind.i64.wrap n = n := by
 simp only [IntKind.wrap, IntKind.signed, IntKind.bits]
 simp
 omega

theorem rdI_nat {α : Type} {xs : List α} {i : Nat} (h : i < xs.length) : rdI xs (i : Int) = some xs[i] := by
 unfold rdI
 rw [if_pos (by omega)]
 simp [h]

end
end Go.Pv
