/- The functions of this seat, and the laws as plain Lean. -/
import Derived.Test.YtkpiocglghnnhaaDoorQ11

set_option linter.unusedSimpArgs false
set_option linter.unusedVariables false

namespace Go.Proofs.YtkpiocglghnnhaaDoor
open Go Go.Pv Go.Proofs Go.L
set_option maxRecDepth 100000

theorem str_bytes {s : List Int} (h : Wf .str s) : bytesL s := fun v hv => by
 have := h.1 v hv
 simp [inR, IntKind.min, IntKind.max, IntKind.signed, IntKind.bits]
 omega

def liveS : List Int := [115, 101, 116, 32, 105, 112, 46, 116, 116, 108, 32, 61, 32, 56, 39, 52, 48, 59]

theorem live_scan : scanT liveS = .inl [(1, [115, 101, 116], 0, vZ, 0, ()), (1, [105, 112, 46, 116, 116, 108], 0, vZ, 4, ()), (0, [61], 0, vZ, 11, ()), (3, [], 0, (8, 0, 64, ()), 13, ()), (0, [59], 0, vZ, 17, ())] := by
 show scanF (17 + 1) liveS 0 [] = _
 have hp : vec_Parse [56, 39, 52, 48] = some (((8, 0, 64, ()), 0, ()), ()) := by
  have h := vec_Parse_text (W := 8) (x := 64) (by decide)
  have e : text 10 8 ++ [39] ++ text 16 64 = [56, 39, 52, 48] := by
   have e1 : text 10 8 = [56] := by unfold text; rw [D_eq (by omega)]; rfl
   have e2 : text 16 64 = [52, 48] := by
    unfold text
    rw [D_eq (by omega), if_neg (by decide), D_eq (by omega)]
    rfl
   rw [e1, e2]
   rfl
  rw [e] at h
  exact h
 have o1 : oneT liveS ((0 : Nat) : Int) = ((1, [115, 101, 116], 0, vZ, 0, ()), 3, 0) := one_word (n := 3) (by decide) (by decide) (by decide) (by decide)
 have o2 : oneT [105, 112, 46, 116, 116, 108, 32, 61, 32, 56, 39, 52, 48, 59] ((4 : Nat) : Int) = ((1, [105, 112, 46, 116, 116, 108], 0, vZ, 4, ()), 6, 0) := one_word (n := 6) (by decide) (by decide) (by decide) (by decide)
 have o3 : oneT [61, 32, 56, 39, 52, 48, 59] ((11 : Nat) : Int) = ((0, [61], 0, vZ, 11, ()), 1, 0) := one_mark (by decide)
 have o4 : oneT [56, 39, 52, 48, 59] ((13 : Nat) : Int) = ((3, [], 0, (8, 0, 64, ()), 13, ()), 4, 0) := one_num (n := 4) (by decide) (by decide) (by decide) (by decide) (num_row (s := [56, 39, 52, 48]) (by decide) (by decide) hp 13)
 have o5 : oneT [59] ((17 : Nat) : Int) = ((0, [59], 0, vZ, 17, ()), 1, 0) := one_mark (by decide)
 refine (scan_step (by decide) o1).trans ?_
 refine (scan_step (k := 16) (l := [105, 112, 46, 116, 116, 108, 32, 61, 32, 56, 39, 52, 48, 59]) (a := 4) (by decide) o2).trans ?_
 refine (scan_step (k := 15) (l := [61, 32, 56, 39, 52, 48, 59]) (a := 11) (by decide) o3).trans ?_
 refine (scan_step (k := 14) (l := [56, 39, 52, 48, 59]) (a := 13) (by decide) o4).trans ?_
 refine (scan_step (k := 13) (l := [59]) (a := 17) (by decide) o5).trans ?_
 rfl

theorem lives_ok : law06_lives = some ((true, ()), ()) := by
 unfold law06_lives
 have hb : bytesL liveS := by unfold bytesL; decide
 have := lex_scan_ok hb (by decide)
 rw [live_scan] at this
 rw [show lex_Scan [115, 101, 116, 32, 105, 112, 46, 116, 116, 108, 32, 61, 32, 56, 39, 52, 48, 59] = _ from this, Option.bind_some]
 rfl

theorem alike_self (t : Tok) : law06_alike t t = some ((true, ()), ()) := by
 unfold law06_alike
 simp only [decide_true, gtrue, Option.bind_some, cond_true, Bool.and_self]

theorem scans_tail {s : List Int} (x : List Tok ⊕ (Int × Nat)) (h1 : lex_Scan s = some (outL x)) (h2 : ref06_Scan s = some (outR x)) (hx : ∀ e p, x = .inr (e, p) → e ≠ 0) (hl : ∀ l, x = .inl l → l.length ≤ 100000) (hn : ¬ (1500 < s.length ∧ s.length ≤ 16384)) (hn2 : ¬ 20000 < s.length) : law06_LexScans s = some ((true, ()), ()) := by
 unfold law06_LexScans
 have hd : decide ((s.length : Int) > 20000) = false := decide_eq_false (by omega)
 have hd2 : decide ((s.length : Int) > 1500) = true → decide ((s.length : Int) ≤ 16384) = false := fun h => decide_eq_false (by have := of_decide_eq_true h; omega)
 cases h15 : decide ((s.length : Int) > 1500)
 all_goals simp only [h15, hd, hd2, gtrue, gfalse, Option.bind_some, cond_true, cond_false, Bool.not_true, Bool.not_false]
 all_goals clear h15 hd2
 all_goals cases x with
 | inl l =>
  have hl := hl l rfl
  have h1 : lex_Scan s = some ((l, .inr (), ()), ()) := h1
  have h2 : ref06_Scan s = some ((l, 0, 0, ()), ()) := h2
  rw [h1, h2, Option.bind_some, Option.bind_some]
  have hw : lex_Why_8d8 (.inr ()) = some ((0, 0, ()), ()) := rfl
  have hn : isNil1 (.inr () : Err) = true := rfl
  simp only [hw, hn, gtrue, gfalse, List.length_nil, Option.bind_some, decide_true, Bool.not_true, Bool.not_false, cond_true, cond_false]
  refine loop_up (fun i => ((l, l, (i : Int), ()), ())) l.length (fun i hi => ?_) ?_ 0 (by omega)
  ·dsimp only
   unfold law06_LexScans_s0
   simp only [dlt hi, cond_true, ck_nat hi, rdI_nat hi, Option.bind_some, alike_self, Bool.not_true, Bool.not_false, gtrue, Option.map_some, decide_true, cond_false, wi64 (show i < 1000000000 by omega)]
  ·dsimp only
   unfold law06_LexScans_s0
   rw [dge, cond_false, lives_ok]
   rfl
 | inr q =>
  obtain ⟨e, p⟩ := q
  have he := hx e p rfl
  have h1 : lex_Scan s = some (([], .inl (some (e, (p : Int), ())), ()), ()) := h1
  have h2 : ref06_Scan s = some (([], (p : Int), e, ()), ()) := h2
  rw [h1, h2, Option.bind_some, Option.bind_some]
  have hw : lex_Why_8d8 (.inl (some (e, (p : Int), ()))) = some ((e, (p : Int), ()), ()) := rfl
  have hn : isNil1 (.inl (some (e, (p : Int), ())) : Err) = false := rfl
  simp only [hw, hn, gtrue, gfalse, List.length_nil, Option.bind_some, decide_true, decide_eq_false he, Bool.not_true, Bool.not_false, cond_true, cond_false]
  refine loopR_out ?_
  dsimp only
  unfold law06_LexScans_s0
  rw [show decide ((0 : Int) < (([] : List Tok).length : Int)) = false from rfl, cond_false, lives_ok]
  rfl

theorem scanF_len : ∀ (k : Nat) (l : List Int) (a : Nat) (acc r : List Tok), scanF k l a acc = .inl r → r.length ≤ acc.length + k
 | 0, _, _, _, _, h => by
  unfold scanF at h
  simp only [Sum.inl.injEq] at h
  subst h
  omega
 | k + 1, l, a, acc, r, h => by
  unfold scanF at h
  by_cases h0 : l.length = 0
  ·rw [if_pos h0] at h
   simp only [Sum.inl.injEq] at h
   subst h
   omega
  ·rw [if_neg h0] at h
   split at h
   ·have := scanF_len k _ _ _ r h
    rw [List.length_append] at this
    simp only [List.length_cons, List.length_nil] at this
    omega
   ·cases h

theorem scanT_len {s : List Int} {l : List Tok} (h : scanT s = .inl l) : l.length ≤ s.length := by
 have := scanF_len _ _ _ _ _ h
 simpa using this

theorem scans_ok {s : List Int} (hs : bytesL s) : law06_LexScans s = some ((true, ()), ()) := by
 by_cases h1 : 1500 < s.length ∧ s.length ≤ 16384
 ·unfold law06_LexScans
  simp only [decide_eq_true (show (s.length : Int) > 1500 by omega), decide_eq_true (show (s.length : Int) ≤ 16384 by omega), gtrue, gfalse, Option.bind_some, cond_true, Bool.not_true, lives_ok]
 by_cases h2 : 20000 < s.length
 ·unfold law06_LexScans
  simp only [decide_eq_true (show (s.length : Int) > 1500 by omega), decide_eq_false (show ¬ (s.length : Int) ≤ 16384 by omega), decide_eq_true (show (s.length : Int) > 20000 by omega), gtrue, gfalse, Option.bind_some, cond_true, cond_false, Bool.not_true, Bool.not_false, lives_ok]
 by_cases h3 : s.length ≤ 1500
 ·exact scans_tail (scanT s) (lex_scan_ok hs (by omega)) (ref_scan_ok hs (by omega)) (fun e p h => (scanT_err h).1) (fun l h => by have := scanT_len h; omega) h1 h2
 ·refine scans_tail (.inr (2, 0)) ?_ ?_ (fun e p h => by cases h; decide) (fun l h => by cases h) h1 h2
  ·unfold lex_Scan
   rw [decide_eq_true (by omega), cond_true]
   rfl
  ·unfold ref06_Scan
   rw [decide_eq_true (by omega), cond_true]
   rfl

end Go.Proofs.YtkpiocglghnnhaaDoor
