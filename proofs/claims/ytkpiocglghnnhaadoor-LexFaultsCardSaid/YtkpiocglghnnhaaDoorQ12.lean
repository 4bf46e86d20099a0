/- The functions of this seat, and the laws as plain Lean. -/
import Derived.Test.YtkpiocglghnnhaaDoorQ11

set_option linter.unusedSimpArgs false
set_option linter.unusedVariables false

namespace Go.Proofs.YtkpiocglghnnhaaDoor
open Go Go.Pv Go.Proofs Go.L
set_option maxRecDepth 100000

theorem str_bytes {s : List Int} (h : Wf .str s) : bytesL s := fun v hv => by
 have := h.1 v hv
 simp [inR, IntKind.min, IntKind.max, IntKind.signed, IntKind.bits]
 omega

def liveS : List Int := [115, 101, 116, 32, 105, 112, 46, 116, 116, 108, 32, 61, 32, 56, 39, 52, 48, 59]

theorem live_scan : scanT liveS = .inl [(1, [115, 101, 116], 0, vZ, 0, ()), (1, [105, 112, 46, 116, 116, 108], 0, vZ, 4, ()), (0, [61], 0, vZ, 11, ()), (3, [], 0, (8, 0, 64, ()), 13, ()), (0, [59], 0, vZ, 17, ())] := by
 show scanF (17 + 1) liveS 0 [] = _
 have hp : vec_Parse [56, 39, 52, 48] = some (((8, 0, 64, ()), 0, ()), ()) := by
  have h := vec_Parse_text (W := 8) (x := 64) (by decide)
  have e : text 10 8 ++ [39] ++ text 16 64 = [56, 39, 52, 48] := by
   have e1 : text 10 8 = [56] := by unfold text; rw [D_eq (by omega)]; rfl
   have e2 : text 16 64 = [52, 48] := by
    unfold text
    rw [D_eq (by omega), if_neg (by decide), D_eq (by omega)]
    rfl
   rw [e1, e2]
   rfl
  rw [e] at h
  exact h
 have o1 : oneT liveS ((0 : Nat) : Int) = ((1, [115, 101, 116], 0, vZ, 0, ()), 3, 0) := one_word (n := 3) (by decide) (by decide) (by decide) (by decide)
 have o2 : oneT [105, 112, 46, 116, 116, 108, 32, 61, 32, 56, 39, 52, 48, 59] ((4 : Nat) : Int) = ((1, [105, 112, 46, 116, 116, 108], 0, vZ, 4, ()), 6, 0) := one_word (n := 6) (by decide) (by decide) (by decide) (by decide)
 have o3 : oneT [61, 32, 56, 39, 52, 48, 59] ((11 : Nat) : Int) = ((0, [61], 0, vZ, 11, ()), 1, 0) := one_mark (by decide)
 have o4 : oneT [56, 39, 52, 48, 59] ((13 : Nat) : Int) = ((3, [], 0, (8, 0, 64, ()), 13, ()), 4, 0) := one_num (n := 4) (by decide) (by decide) (by decide) (by decide) (num_row (s := [56, 39, 52, 48]) (by decide) (by decide) hp 13)
 have o5 : oneT [59] ((17 : Nat) : Int) = ((0, [59], 0, vZ, 17, ()), 1, 0) := one_mark (by decide)
 refine (scan_step (by decide) o1).trans ?_
 refine (scan_step (k := 16) (l := [105, 112, 46, 116, 116, 108, 32, 61, 32, 56, 39, 52, 48, 59]) (a := 4) (by decide) o2).trans ?_
 refine (scan_step (k := 15) (l := [61, 32, 56, 39, 52, 48, 59]) (a := 11) (by decide) o3).trans ?_
 refine (scan_step (k := 14) (l := [56, 39, 52, 48, 59]) (a := 13) (by decide) o4).trans ?_
 refine (scan_step (k := 13) (l := [59]) (a := 17) (by decide) o5).trans ?_
 rfl

theorem lives_ok : law06_lives = some ((true, ()), ()) := by
 unfold law06_lives
 have hb : bytesL liveS := by unfold bytesL; decide
 have := lex_scan_ok hb (by decide)
 rw [live_scan] at this
 rw [show lex_Scan [115, 101, 116, 32, 105, 112, 46, 116, 116, 108, 32, 61, 32, 56, 39, 52, 48, 59] = _ from this, Option.bind_some]
 rfl

theorem scanF_len : ∀ (k : Nat) (l : List Int) (a : Nat) (acc r : List Tok), scanF k l a acc = .inl r → r.length ≤ acc.length + k
 | 0, _, _, _, _, h => by
  unfold scanF at h
  simp only [Sum.inl.injEq] at h
  subst h
  omega
 | k + 1, l, a, acc, r, h => by
  unfold scanF at h
  by_cases h0 : l.length = 0
  ·rw [if_pos h0] at h
   simp only [Sum.inl.injEq] at h
   subst h
   omega
  ·rw [if_neg h0] at h
   split at h
   ·have := scanF_len k _ _ _ r h
    rw [List.length_append] at this
    simp only [List.length_cons, List.length_nil] at this
    omega
   ·cases h

theorem scanT_len {s : List Int} {l : List Tok} (h : scanT s = .inl l) : l.length ≤ s.length := by
 have := scanF_len _ _ _ _ _ h
 simpa using this

end Go.Proofs.YtkpiocglghnnhaaDoor
