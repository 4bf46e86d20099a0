/- The functions of this seat, and the laws as plain Lean. -/
import Derived.Test.YtkpiocglghnnhaaDoorQ13

set_option linter.unusedSimpArgs false
set_option linter.unusedVariables false

namespace Go.Proofs.YtkpiocglghnnhaaDoor
open Go Go.Pv Go.Proofs Go.L
set_option maxRecDepth 100000

theorem back_loop {l m : List Tok} {s : List Int} (hj : lex_Join m = some ((s, ()), ())) (he : m.map (atT 0) = l.map (atT 0)) (hl : l.length ≤ 100000) :
  loopR (fun (z : ((List Tok) × (List Int) × (List Tok) × Int × Unit) × (Unit)) => law06_LexBack_s0 z.1.1 z.1.2.1 z.1.2.2.1 z.1.2.2.2.1) ((l, s, m, 0, ()), ()) = some ((true, ()), ()) := by
 have hlen : m.length = l.length := by
  have := congrArg List.length he
  simpa using this
 refine loop_up (fun i => ((l, s, m, (i : Int), ()), ())) l.length (fun i hi => ?_) ?_ 0 (by omega)
 ·dsimp only
  unfold law06_LexBack_s0
  have hm : i < m.length := by omega
  have hx : atT 0 m[i] = atT 0 l[i] := by
   have h1 : (m.map (atT 0))[i]? = (l.map (atT 0))[i]? := by rw [he]
   rw [List.getElem?_map, List.getElem?_map, List.getElem?_eq_getElem hm, List.getElem?_eq_getElem hi] at h1
   simpa using h1
  have hwi := wi64 (i := i) (by omega)
  have r1 := rdI_nat hm
  have r2 := rdI_nat hi
  generalize m[i] = x at hx r1
  generalize l[i] = y at hx r2
  obtain ⟨x1, x2, x3, x4, x5, _⟩ := x
  obtain ⟨y1, y2, y3, y4, y5, _⟩ := y
  simp only [atT, Prod.mk.injEq, and_true] at hx
  obtain ⟨rfl, rfl, rfl, rfl⟩ := hx
  simp only [dlt hi, cond_true, ck_nat hm, ck_nat hi, r1, r2, Option.bind_some, Option.map_some, decide_true, Bool.not_true, Bool.not_false, gtrue, cond_false, Bool.and_self, hwi]
 ·dsimp only
  unfold law06_LexBack_s0
  rw [dge, cond_false, hj]
  simp only [Option.bind_some, decide_true, gtrue, lives_ok, cond_true, Option.map_some]

theorem bytes_jtx {l : List Tok} (h : ∀ t ∈ l, bytesL (ttx t)) : bytesL (jtx l) := by
 cases l with
 | nil => intro v hv; simp [jtx, joinI] at hv
 | cons x l =>
  intro v hv
  simp only [jtx, joinI, List.map_cons, List.mem_append, List.mem_flatten, List.mem_map] at hv
  rcases hv with hv | ⟨_, ⟨_, ⟨t, ht, rfl⟩, rfl⟩, hv⟩
  ·exact h x (by simp) v hv
  ·rcases List.mem_append.1 hv with hv | hv
   ·obtain rfl := List.mem_singleton.1 hv
    rfl
   ·exact h t (by simp [ht]) v hv

theorem back_ok {s : List Int} (hs : bytesL s) : law06_LexBack s = some ((true, ()), ()) := by
 unfold law06_LexBack
 by_cases hL : 1500 < s.length
 ·rw [decide_eq_true (by omega), cond_true, lives_ok]
  rfl
 rw [decide_eq_false (by omega), cond_false, lex_scan_ok hs (by omega), Option.bind_some, scanT_A]
 cases h1 : scanA s 0 [] with
 | inr e =>
  obtain ⟨e, p⟩ := e
  have hn : isNil1 (outL (.inr (e, p))).1.2.1 = false := rfl
  have hl : ((outL (.inr (e, p))).1.1.length : Int) = 0 := rfl
  simp only [hn, hl, Bool.not_false, Bool.not_true, decide_true, gtrue, cond_true, lives_ok, Option.bind_some]
 | inl l =>
  have hg := scan_good _ s 0 [] l (Nat.le_refl _) (by omega) (by simp) h1
  have hb := scan_bytes _ s 0 [] l (Nat.le_refl _) hs (by simp) (by omega) h1
  have hlen : l.length ≤ s.length := scanT_len (by rw [scanT_A]; exact h1)
  have hn (l : List Tok) : isNil1 (outL (.inl l)).1.2.1 = true := rfl
  have hf (l : List Tok) : (outL (.inl l)).1.1 = l := rfl
  have hjl := jtx_len l 400 fun t ht => (hg t ht).2.1
  have hj16 : (jtx l).length ≤ 1500 * 401 := Nat.le_trans hjl (Nat.mul_le_mul_right _ (by omega))
  have hj : lex_Join l = some ((jtx l, ()), ()) := lexJoin_ok (fun t ht => (hg t ht).2.2.1) (by omega) (by omega)
  simp only [hn, hf, Bool.not_true, cond_false, hj, Option.bind_some]
  by_cases hK : 16384 < (jtx l).length
  ·rw [decide_eq_true (by omega), cond_true, lives_ok]
   rfl
  rw [decide_eq_false (by omega), cond_false]
  have hbj := bytes_jtx hb
  obtain ⟨m, k1, k2⟩ := scan_join l hg hbj 0 []
  rw [List.nil_append] at k1
  rw [lex_scan_ok hbj (by omega), Option.bind_some, scanT_A, k1]
  have hlm : m.length = l.length := by
   have := congrArg List.length k2
   simpa using this
  have httx : ∀ t, ttx (atT 0 t) = ttx t := fun t => rfl
  have hmt : m.map ttx = l.map ttx := by
   have := congrArg (List.map ttx) k2
   rw [List.map_map, List.map_map] at this
   exact this
  have hjm : lex_Join m = some ((jtx l, ()), ()) := by
   have e : jtx m = jtx l := by unfold jtx; rw [hmt]
   have hv : ∀ t ∈ m, okV t.2.2.2.1 := fun t ht => by
    have : atT 0 t ∈ l.map (atT 0) := by rw [← k2]; exact List.mem_map_of_mem ht
    obtain ⟨u, hu, he⟩ := List.mem_map.1 this
    have h4 : (atT 0 u).2.2.2.1 = (atT 0 t).2.2.2.1 := by rw [he]
    have h4 : u.2.2.2.1 = t.2.2.2.1 := h4
    rw [← h4]
    exact (hg u hu).2.2.1
   rw [lexJoin_ok hv (by omega) (by rw [e]; omega), e]
  have hle : (m.length : Int) = (l.length : Int) := by rw [hlm]
  simp only [hn, hf, Bool.not_true, Bool.not_false, gtrue, cond_false, Option.bind_some, hle, decide_true]
  exact back_loop hjm k2 (by omega)

end Go.Proofs.YtkpiocglghnnhaaDoor

namespace Go.Proofs.YtkpiocglghnnhaaDoor
open Go Go.Pv Go.Proofs Go.L
set_option maxRecDepth 100000

def dgs (n : Int) : List Int := if n < 0 then [] else text 10 (nat64 n)

theorem dgs_len (n : Int) : (dgs n).length ≤ 128 := by
 unfold dgs
 split
 ·simp
 ·exact text_len'

theorem dgs_ok (n : Int) : lex_digits n = some ((dgs n, ()), ()) ∧ law06_digits n = some ((dgs n, ()), ()) := by
 unfold lex_digits law06_digits dgs
 by_cases hn : n < 0
 ·rw [decide_eq_true hn, cond_true, cond_true, if_pos hn]
  exact ⟨rfl, rfl⟩
 ·rw [decide_eq_false hn, cond_false, cond_false, if_neg hn, wrap_nat64]
  have tx : word_Text (0, (nat64 n : Int), ()) 10 = some ((text 10 (nat64 n), ()), ()) := by
   rw [wp_64 (nat64_lt n)]
   exact word_Text_ok (b := 10) (by have := nat64_lt n; omega) (by omega) (by omega)
  have ro : ref01_Of 0 (nat64 n : Int) = some ((rowB (BitVec.ofNat 128 (nat64 n)), ()), ()) := by
   have := of_wp (w := nat64 n) (by have := nat64_lt n; omega)
   rw [← wp_64 (nat64_lt n)] at this
   exact this
  have rt : ref01_Text (rowB (BitVec.ofNat 128 (nat64 n))) 10 = some ((text 10 (nat64 n), ()), ()) := ref01_Text_ok (b := 10) (by have := nat64_lt n; omega) (by omega) (by omega)
  rw [tx, ro]
  simp only [Option.bind_some, rt]
  exact ⟨trivial, trivial⟩

theorem faults_tail {s : List Int} (x : List Tok ⊕ (Int × Nat)) (h1 : lex_Scan s = some (outL x)) (hx : ∀ e p, x = .inr (e, p) → e ≠ 0 ∧ p ≤ s.length) (hn : ¬ (1500 < s.length ∧ s.length ≤ 16384)) (hn2 : ¬ 20000 < s.length) : law06_LexFaults s = some ((true, ()), ()) := by
 unfold law06_LexFaults
 have hd : decide ((s.length : Int) > 20000) = false := decide_eq_false (by omega)
 have hd2 : decide ((s.length : Int) > 1500) = true → decide ((s.length : Int) ≤ 16384) = false := fun h => decide_eq_false (by have := of_decide_eq_true h; omega)
 cases h15 : decide ((s.length : Int) > 1500)
 all_goals simp only [h15, hd, hd2, gtrue, gfalse, Option.bind_some, cond_true, cond_false, Bool.not_true, Bool.not_false]
 all_goals clear h15 hd2
 all_goals cases x with
 | inl l =>
  have h1 : lex_Scan s = some ((l, .inr (), ()), ()) := h1
  have hw : lex_Why_8d8 (.inr ()) = some ((0, 0, ()), ()) := rfl
  have hn : isNil1 (.inr () : Err) = true := rfl
  rw [h1, Option.bind_some]
  simp only [hn, hw, cond_true, Option.bind_some, decide_true, gtrue, lives_ok]
 | inr q =>
  obtain ⟨e, p⟩ := q
  obtain ⟨he, hp⟩ := hx e p rfl
  have h1 : lex_Scan s = some (([], .inl (some (e, (p : Int), ())), ()), ()) := h1
  have hw : lex_Why_8d8 (.inl (some (e, (p : Int), ()))) = some ((e, (p : Int), ()), ()) := rfl
  have hn : isNil1 (.inl (some (e, (p : Int), ())) : Err) = false := rfl
  have hg : getAlt0 (.inl (some (e, (p : Int), ())) : Err) = some (some (e, (p : Int), ())) := rfl
  have hz : lex_Fault_Error_d35 () = some (([], ()), ()) := rfl
  obtain ⟨d1, d2⟩ := dgs_ok e
  obtain ⟨d3, d4⟩ := dgs_ok (p : Int)
  have l1 := dgs_len e
  have l2 := dgs_len (p : Int)
  have c1 : catI [102, 97, 117, 108, 116, 32] (dgs e) = some ([102, 97, 117, 108, 116, 32] ++ dgs e) := cat_ok (by simp only [List.length_cons, List.length_nil]; omega)
  have c2 : catI ([102, 97, 117, 108, 116, 32] ++ dgs e) [32, 97, 116, 32] = some ([102, 97, 117, 108, 116, 32] ++ dgs e ++ [32, 97, 116, 32]) := cat_ok (by simp only [List.length_append, List.length_cons, List.length_nil]; omega)
  have c3 : catI ([102, 97, 117, 108, 116, 32] ++ dgs e ++ [32, 97, 116, 32]) (dgs (p : Int)) = some ([102, 97, 117, 108, 116, 32] ++ dgs e ++ [32, 97, 116, 32] ++ dgs (p : Int)) := cat_ok (by simp only [List.length_append, List.length_cons, List.length_nil]; omega)
  have hE : lex_Fault_Error_bca (some (e, (p : Int), ())) = some (([102, 97, 117, 108, 116, 32] ++ dgs e ++ [32, 97, 116, 32] ++ dgs (p : Int), ()), ()) := by
   unfold lex_Fault_Error_bca
   simp only [Option.isNone_some, cond_false, Option.bind_some, d1, d3, c1, c2, c3]
  generalize dgs e = a at *
  generalize dgs (p : Int) = b at *
  rw [h1, Option.bind_some]
  simp only [hn, hg, cond_false, Option.isSome_some, Option.getD_some, Option.isNone_some, Bool.not_true, Bool.not_false, gtrue, gfalse, Option.bind_some, hz, decide_true, hE, d2, d4, c1, c2, c3, hw, cond_true, beq_self_eq_true, decide_eq_false he, decide_eq_true (show (p : Int) ≥ 0 by omega), decide_eq_true (show (p : Int) ≤ (s.length : Int) by omega), lives_ok]

theorem faults_ok {s : List Int} (hs : bytesL s) : law06_LexFaults s = some ((true, ()), ()) := by
 by_cases h1 : 1500 < s.length ∧ s.length ≤ 16384
 ·unfold law06_LexFaults
  simp only [decide_eq_true (show (s.length : Int) > 1500 by omega), decide_eq_true (show (s.length : Int) ≤ 16384 by omega), gtrue, gfalse, Option.bind_some, cond_true, Bool.not_true, lives_ok]
 by_cases h2 : 20000 < s.length
 ·unfold law06_LexFaults
  simp only [decide_eq_true (show (s.length : Int) > 1500 by omega), decide_eq_false (show ¬ (s.length : Int) ≤ 16384 by omega), decide_eq_true (show (s.length : Int) > 20000 by omega), gtrue, gfalse, Option.bind_some, cond_true, cond_false, Bool.not_true, Bool.not_false, lives_ok]
 by_cases h3 : s.length ≤ 1500
 ·exact faults_tail (scanT s) (lex_scan_ok hs (by omega)) (fun e p h => ⟨(scanT_err h).1, by have := (scanT_err h).2; omega⟩) h1 h2
 ·refine faults_tail (.inr (2, 0)) ?_ (fun e p h => by cases h; exact ⟨by decide, by omega⟩) h1 h2
  unfold lex_Scan
  rw [decide_eq_true (by omega), cond_true]
  rfl

end Go.Proofs.YtkpiocglghnnhaaDoor
