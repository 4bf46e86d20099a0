/- A plain run of Go code, and that the machine does what it says. -/
import Derived.Shelf.Strings.OnBuilder
import Derived.Test.YtkpiocglghnnhaaDoorQ7

set_option linter.unusedSimpArgs false
set_option linter.unusedVariables false

namespace Go.Pv
open Go.Proofs Go.Shelf Go.RowKit
noncomputable section
universe u v

theorem Lvs.below {w w' : World} {B : Nat → Prop} {rvs : List RV} {v : Value} (hent : Ent w B [] []) (hb : Below w.heap.size w w') (h : RsRel w' B rvs [(v, ⟨none, [], []⟩)]) :
  Lvs false w B [] [] rvs [] v w' B [] [(v, (⟨none, [], []⟩ : PG))] := by
 have hs : ∀ b, b < w.heap.size → Same w w' b := fun b hlt => hb.block b hlt
 exact ⟨rfl, ⟨rfl, rfl⟩, h, by simp [PG.blocks], fun b hb => by simp [PG.blocks] at hb, hb.size, ⟨hb.tape, hb.os, hb.output, fun h => by cases h⟩, fun b h => ⟨hs b (hent.bsz b h), h⟩, fun b h => Nat.lt_of_lt_of_le (hent.bsz b h) hb.size, fun b _ h => .inl h, fun b hlt _ => hs b hlt, fun x hx => by simp at hx⟩

theorem bytesOf_mk (l : List UInt8) : bytesOf ⟨l.toArray⟩ = l.map fun b => (b.toNat : Int) := by simp [bytesOf]

theorem join_bytes (bs : List ByteArray) (sep : ByteArray) : bytesOf ⟨(Lib.join (bs.map (·.data.toList)) sep.data.toList).toArray⟩ = joinI (bs.map bytesOf) (bytesOf sep) := by
 rw [bytesOf_mk]
 cases bs with
 | nil => rfl
 | cons x r =>
  rw [List.map_cons, Lib.join_cons, List.map_cons]
  show _ = bytesOf x ++ ((r.map bytesOf).map (bytesOf sep ++ ·)).flatten
  rw [List.map_append]
  congr 1
  unfold Lib.joinTail
  rw [List.map_flatten, List.map_map, List.map_map, List.map_map]
  congr 1
  apply List.map_congr_left
  intro y _
  simp [bytesOf]

theorem RelL_str {w : World} {B : Nat → Prop} : ∀ (xs : List (List Int)) (cs : List Value), RelL (Rel w B .str) xs cs [] → ∃ bs : List ByteArray, cs = bs.map .string ∧ xs = bs.map bytesOf ∧ bs.length = xs.length
 | [], cs, h => by
  obtain ⟨rfl, _⟩ := h
  exact ⟨[], rfl, rfl, rfl⟩
 | x :: xs, cs, h => by
  obtain ⟨c1, c2, F1, F2, rfl, hF, ⟨b, h1, h2, _, _⟩, hr⟩ := h
  have hF := hF.symm
  simp only [List.append_eq_nil_iff] at hF
  obtain ⟨rfl, rfl⟩ := hF
  obtain ⟨bs, e1, e2, e3⟩ := RelL_str xs c2 hr
  refine ⟨b :: bs, ?_, ?_, ?_⟩
  ·rw [h1, e1]; rfl
  ·rw [e2, ← h2]; rfl
  ·simp [e3]

theorem join_contract {P : Program} {ρ : Ren} {f : Nat} (L : Lays.n156 P ρ) (X : Builder.Extra P ρ) (hk : ρ.f 156 = f) {fn : Func} (hf : P.funcs[f]? = some fn) (hname : (fn.name == "runtime.NumGoroutine") = false) (hb : fn.body.isNone = false) : Contract P f joinSem := by
 refine ⟨?_, fun z h => (by cases h), fun z h => (by cases h)⟩
 intro avs s hs r hr w B os ow vs hent hA
 obtain ⟨x, hx, rfl⟩ := Option.map_eq_some_iff.1 hs
 have hr : joinF x.1 x.2.1 = some r := hr
 obtain ⟨h1, h2, h3⟩ := matchArgs_ok _ avs x hx os ow vs hA (fun y hy => hent.pl y (List.mem_append.2 (.inr hy)))
 obtain ⟨d1, r1, rfl, f1, e1, x1, hx1, rfl⟩ := matchArgs_val hx
 obtain ⟨d2, r2, rfl, f2, e2, x2, hx2, rfl⟩ := matchArgs_val hx1
 obtain rfl := matchArgs_nil hx2
 obtain ⟨v1, _, rfl, p1, ⟨q1, a1⟩, v2, _, rfl, p2, ⟨q2, a2⟩, rfl, rfl, rfl⟩ := hA
 have k1 := cv_rel _ _ _ e1 d1.val _ _ q1
 have k2 := cv_rel _ _ _ e2 d2.val _ _ q2
 obtain ⟨_, v, m1, sa, cap, cells, hv, hcap, hmax, _, hcl, hR, hrow⟩ := k1
 obtain ⟨sb, m2, hs2, hl2, _⟩ := k2
 have ha1 : Value.agg? v1 = false := by
  rw [a1]
  exact (cv_agg _ _ _ e1)
 have ha2 : Value.agg? v2 = false := by
  rw [a2]
  exact (cv_agg _ _ _ e2)
 have w1 := cells_one m1 ha1
 have w2 := cells_one m2 ha2
 subst w1
 subst w2
 have hr : joinF (f1 d1.val) (f2 d2.val) = some r := hr
 generalize (f1 d1.val : List (List Int)) = xs at hv hcap hcl hR hrow hr
 have hs2 : bytesOf sb = f2 d2.val := hs2
 rw [← hs2] at hr
 unfold joinF at hr
 split at hr
 case isFalse => cases hr
 rename_i hok
 obtain ⟨hj, hn⟩ := hok
 obtain rfl := Option.some.inj hr
 obtain ⟨bs, c1, c2, c3⟩ := RelL_str xs cells hR
 have hjb := join_bytes bs sb
 rw [← c2] at hjb
 have hjl : (Lib.join (bs.map (·.data.toList)) sb.data.toList).length = (joinI xs (bytesOf sb)).length := by
  rw [← hjb, bytesOf_mk, List.length_map]
 have fin : ∀ w', Below w.heap.size w w' → ∃ B' gs rs, Lvs false w B [] [] (resL [RK.val .str] ((joinI xs (bytesOf sb)), ())) (objsL [] ()) (.string ⟨(Lib.join (bs.map (·.data.toList)) sb.data.toList).toArray⟩) w' B' gs rs := by
  intro w' hw
  refine ⟨B, [], _, Lvs.below hent hw ?_⟩
  refine ⟨_, _, _, rfl, ⟨rfl, ⟨⟨_, rfl, hjb, ?_, rfl⟩, rfl⟩, rfl⟩, rfl⟩
  show (Lib.join (bs.map (·.data.toList)) sb.data.toList).toArray.size ≤ maxLen
  rw [List.size_toArray, hjl]
  unfold maxLen
  omega
 refine .inl ⟨run_callFunc_body hf hname hb _ w, ?_⟩
 subst hk
 subst hv
 by_cases h0 : xs = []
 ·subst h0
  have hbs : bs = [] := List.eq_nil_of_length_eq_zero (by simpa using c3)
  subst hbs
  refine (Any.strings_Join_none L X sa cap sb w).mono ?_
  rintro e w' ⟨rfl, rfl⟩
  exact fin _ (Below.refl _ _)
 ·cases sa with
  | none =>
   have hrow : cap = 0 := hrow
   exact absurd (List.eq_nil_of_length_eq_zero (by omega)) h0
  | some ad =>
   rcases hrow with hrow | ⟨s1, s2, s3⟩
   ·exact absurd hrow h0
   ·obtain ⟨b, off, sp⟩ := ad
    have s1 : sp = none := s1
    subst s1
    rw [← c3]
    refine (Any.strings_Join L X b off cap bs sb w ?_ (hent.bsz b s2) (by omega) (by omega) (by rw [hjl]; omega)).mono ?_
    ·intro j y hy
     refine s3 j (.string y) ?_
     rw [c1, List.getElem?_map, hy]
     rfl
    ·rintro e w' ⟨rfl, hw⟩
     exact fin _ hw

end
end Go.Pv
