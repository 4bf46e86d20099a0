/- The functions of this seat, and the laws as plain Lean. -/
import Derived.Test.YtkpiocglghnnhaaDoorQ13

set_option linter.unusedSimpArgs false
set_option linter.unusedVariables false

namespace Go.Proofs.YtkpiocglghnnhaaDoor
open Go Go.Pv Go.Proofs Go.L
set_option maxRecDepth 100000

theorem remarks_s4 (l m : List Tok) (q : Nat) (hl : l.length ≤ 100000) (hm : m.length ≤ 100000) :
  loopR (fun (z : ((List Tok) × (List Tok) × (List Tok) × Int × Unit) × (Unit)) => law06_LexRemarks_s4 z.1.1 z.1.2.1 z.1.2.2.1 z.1.2.2.2.1) ((l, m, l ++ m.map (shT q), 0, ()), ()) = some ((true, ()), ()) := by
 refine loop_up (fun i => ((l, m, l ++ m.map (shT q), (i : Int), ()), ())) m.length (fun i hi => ?_) ?_ 0 (by omega)
 ·dsimp only
  unfold law06_LexRemarks_s4
  have hw : IntKind.i64.wrap ((l.length : Int) + (i : Int)) = ((l.length + i : Nat) : Int) := by
   rw [wrap_i64 (by omega) (by omega)]
   omega
  have hlen : l.length + i < (l ++ m.map (shT q)).length := by rw [List.length_append, List.length_map]; omega
  have hA : rdI (l ++ m.map (shT q)) ((l.length + i : Nat) : Int) = some (shT q m[i]) := by
   rw [rdI_nat hlen]
   simp
  generalize l ++ m.map (shT q) = all at *
  have hwi := wi64 (i := i) (by omega)
  simp only [dlt hi, cond_true, hw, ck_nat hlen, hA, ck_nat hi, rdI_nat hi, Option.bind_some, Option.map_some, shT, decide_true, Bool.not_true, Bool.not_false, gtrue, cond_false, Bool.and_self, hwi]
 ·dsimp only
  unfold law06_LexRemarks_s4
  rw [dge, cond_false, lives_ok]
  rfl

theorem remarks_s2 (l m : List Tok) (q : Nat) (hl : l.length ≤ 100000) (hm : m.length ≤ 100000) :
  loopR (fun (z : ((List Tok) × (List Tok) × (List Tok) × Int × Unit) × (Unit)) => law06_LexRemarks_s2 z.1.1 z.1.2.1 z.1.2.2.1 z.1.2.2.2.1) ((l, m, l ++ m.map (shT q), 0, ()), ()) = some ((true, ()), ()) := by
 refine loop_up (fun i => ((l, m, l ++ m.map (shT q), (i : Int), ()), ())) l.length (fun i hi => ?_) ?_ 0 (by omega)
 ·dsimp only
  unfold law06_LexRemarks_s2
  have hlen : i < (l ++ m.map (shT q)).length := by rw [List.length_append]; omega
  have hA : rdI (l ++ m.map (shT q)) (i : Int) = some l[i] := by
   rw [rdI_nat hlen, List.getElem_append_left hi]
  generalize l ++ m.map (shT q) = all at *
  have hwi := wi64 (i := i) (by omega)
  simp only [dlt hi, cond_true, ck_nat hlen, hA, ck_nat hi, rdI_nat hi, Option.bind_some, Option.map_some, decide_true, Bool.not_true, Bool.not_false, gtrue, cond_false, hwi]
 ·dsimp only
  unfold law06_LexRemarks_s2
  rw [dge, cond_false, remarks_s4 l m q hl hm]
  rfl

theorem skip_remark (X : List Int) : ∀ r : List Int, (∀ x ∈ r, x ≠ 10) → skipC true (r ++ 10 :: X) = r.length + 1 + skipC false X
 | [], _ => by rw [List.nil_append, skT, if_pos rfl, List.length_nil]; omega
 | c :: r, h => by
  rw [List.cons_append, skT, if_neg (h c (by simp)), skip_remark X r (fun x hx => h x (by simp [hx])), List.length_cons]
  omega

theorem scan_remark {a b r : List Int} {l m : List Tok} (hb : b.length ≤ 100000) (hr : ∀ x ∈ r, x ≠ 10) (h1 : scanA a 0 [] = .inl l) (h2 : scanA b 0 [] = .inl m) :
  scanT (a ++ [10, 32, 9, 35] ++ r ++ [10, 13] ++ b) = .inl (l ++ m.map (shT (a.length + (r.length + 6)))) := by
 have e : a ++ [10, 32, 9, 35] ++ r ++ [10, 13] ++ b = a ++ 10 :: (32 :: 9 :: 35 :: (r ++ 10 :: (13 :: b))) := by simp
 rw [e, scanT_A, scan_cut _ a.length a 0 [] (Nat.le_refl _), h1]
 dsimp only
 have hs : skipC false (32 :: 9 :: 35 :: (r ++ 10 :: (13 :: b))) = (r.length + 5) + skipC false b := by
  rw [skF, if_neg (by decide), if_pos (by decide), skF, if_neg (by decide), if_pos (by decide), skF, if_pos rfl, skip_remark _ r hr, skF, if_neg (by decide), if_pos (by decide)]
  omega
 have hd : (32 :: 9 :: 35 :: (r ++ 10 :: (13 :: b))).drop (r.length + 5) = b := by
  have : (32 :: 9 :: 35 :: (r ++ 10 :: (13 :: b))) = (32 :: 9 :: 35 :: (r ++ [10, 13])) ++ b := by simp
  rw [this, List.drop_append, List.drop_eq_nil_of_le (by simp), List.nil_append]
  simp
 rw [scanA_skip hs hd (by simp)]
 have := scan_sh (a.length + (r.length + 6)) l b.length b 0 [] (Nat.le_refl _) hb
 rw [h2, List.map_nil, List.append_nil] at this
 dsimp only at this
 rw [show 0 + (a.length + (r.length + 6)) = 0 + (a.length + 1) + (r.length + 5) by omega] at this
 exact this

theorem scanA_len {s : List Int} {l : List Tok} (h : scanA s 0 [] = .inl l) : l.length ≤ s.length := scanT_len (by rw [scanT_A]; exact h)

theorem remarks_ok {a b r : List Int} (ha : bytesL a) (hb : bytesL b) (hr : bytesL r) (la : a.length ≤ 281474976710656) (lb : b.length ≤ 281474976710656) (lr : r.length ≤ 281474976710656) : law06_LexRemarks a b r = some ((true, ()), ()) := by
 unfold law06_LexRemarks
 have hw : IntKind.i64.wrap ((IntKind.i64.wrap ((a.length : Int) + (b.length : Int))) + (r.length : Int)) = ((a.length + b.length + r.length : Nat) : Int) := by
  rw [wrap_i64 (n := (a.length : Int) + (b.length : Int)) (by omega) (by omega), wrap_i64 (by omega) (by omega)]
  omega
 rw [hw]
 by_cases hL : 3000 < a.length + b.length + r.length
 ·rw [decide_eq_true (by omega), cond_true, lives_ok]
  rfl
 rw [decide_eq_false (by omega), cond_false]
 refine loop_meas (fun z => ∃ i : Nat, i ≤ r.length ∧ z = ((a, b, r, (i : Int), ()), ()) ∧ ∀ x ∈ r.take i, x ≠ 10) (fun z => r.length - z.1.2.2.2.1.toNat) ?_ ⟨0, by omega, rfl, by simp⟩
 rintro _ ⟨i, hi, rfl, h10⟩
 dsimp only
 unfold law06_LexRemarks_s0
 rcases Nat.lt_or_ge i r.length with h | h
 ·rw [dlt h, cond_true, rdI_nat h, Option.bind_some]
  by_cases hc : r[i] = 10
  ·rw [decide_eq_true hc, cond_true, lives_ok]
   exact .inl rfl
  ·rw [decide_eq_false hc, cond_false]
   refine .inr ⟨_, rfl, ⟨i + 1, h, by rw [wi64 (by omega)], fun x hx => ?_⟩, ?_⟩
   ·rw [List.take_succ_eq_append_getElem h] at hx
    rcases List.mem_append.1 hx with hx | hx
    ·exact h10 x hx
    ·obtain rfl := List.mem_singleton.1 hx
     exact hc
   ·dsimp only
    rw [wi64 (by omega)]
    omega
 left
 obtain rfl : i = r.length := by omega
 rw [List.take_length] at h10
 have hA : scanT (a ++ [10]) = scanA a 0 [] := by
  rw [scanT_A, scan_cut [] a.length a 0 [] (Nat.le_refl _)]
  cases scanA a 0 [] with
  | inl l => exact scanA_end (s := []) (skN false) _ _
  | inr e => rfl
 have hB : scanT b = scanA b 0 [] := scanT_A b
 have s1 := lex_scan_ok (s := a ++ [10]) (fun v hv => by
  rcases List.mem_append.1 hv with hv | hv
  ·exact ha v hv
  ·obtain rfl := List.mem_singleton.1 hv
   rfl) (by rw [List.length_append]; simp only [List.length_cons, List.length_nil]; omega)
 have s2 := lex_scan_ok (s := b) hb (by omega)
 have s3 := lex_scan_ok (s := a ++ [10, 32, 9, 35] ++ r ++ [10, 13] ++ b) (fun v hv => by
  simp only [List.mem_append] at hv
  rcases hv with (((hv | hv) | hv) | hv) | hv
  ·exact ha v hv
  ·revert v; decide
  ·exact hr v hv
  ·revert v; decide
  ·exact hb v hv) (by simp only [List.length_append, List.length_cons, List.length_nil]; omega)
 have c1 : catI a [10] = some (a ++ [10]) := cat_ok (by simp only [List.length_cons, List.length_nil]; omega)
 have c2 : catI a [10, 32, 9, 35] = some (a ++ [10, 32, 9, 35]) := cat_ok (by simp only [List.length_cons, List.length_nil]; omega)
 have c3 : catI (a ++ [10, 32, 9, 35]) r = some (a ++ [10, 32, 9, 35] ++ r) := cat_ok (by simp only [List.length_append, List.length_cons, List.length_nil]; omega)
 have c4 : catI (a ++ [10, 32, 9, 35] ++ r) [10, 13] = some (a ++ [10, 32, 9, 35] ++ r ++ [10, 13]) := cat_ok (by simp only [List.length_append, List.length_cons, List.length_nil]; omega)
 have c5 : catI (a ++ [10, 32, 9, 35] ++ r ++ [10, 13]) b = some (a ++ [10, 32, 9, 35] ++ r ++ [10, 13] ++ b) := cat_ok (by simp only [List.length_append, List.length_cons, List.length_nil]; omega)
 rw [dge, cond_false, c1, Option.bind_some, s1, Option.bind_some, s2, Option.bind_some, c2, Option.bind_some, c3, Option.bind_some, c4, Option.bind_some, c5, Option.bind_some, s3, Option.bind_some, hA, hB]
 cases h1 : scanA a 0 [] with
 | inr e =>
  obtain ⟨e, p⟩ := e
  have hn : isNil1 (outL (.inr (e, p))).1.2.1 = false := rfl
  simp only [hn, Bool.not_false, Bool.not_true, gfalse, cond_true, lives_ok, Option.bind_some, Option.map_some]
 | inl l =>
  cases h2 : scanA b 0 [] with
  | inr e =>
   obtain ⟨e, p⟩ := e
   have hn : isNil1 (outL (.inr (e, p))).1.2.1 = false := rfl
   have hn1 : isNil1 (outL (.inl l)).1.2.1 = true := rfl
   simp only [hn, hn1, Bool.not_false, Bool.not_true, gtrue, cond_true, cond_false, lives_ok, Option.bind_some, Option.map_some]
  | inl m =>
   rw [scan_remark (by omega) h10 h1 h2]
   have k1 := scanA_len h1
   have k2 := scanA_len h2
   have hn (l : List Tok) : isNil1 (outL (.inl l)).1.2.1 = true := rfl
   have hf (l : List Tok) : (outL (.inl l)).1.1 = l := rfl
   have hlen : ((l ++ m.map (shT (a.length + (r.length + 6)))).length : Int) = IntKind.i64.wrap ((l.length : Int) + (m.length : Int)) := by
    rw [wrap_i64 (by omega) (by omega), List.length_append, List.length_map]
    omega
   simp only [hn, hf, Bool.not_false, Bool.not_true, gtrue, cond_true, cond_false, Option.bind_some, Option.map_some, hlen, decide_true]
   rw [remarks_s2 l m _ (by omega) (by omega)]
   rfl

end Go.Proofs.YtkpiocglghnnhaaDoor
