/- The functions of this seat, and the laws as plain Lean. -/
import Derived.Test.YtnaclmcmicckeaaQ14

set_option linter.unusedSimpArgs false
set_option linter.unusedVariables false

namespace Go.Proofs.Ytnaclmcmicckeaa
open Go Go.Pv Go.Proofs Go.L
set_option maxRecDepth 100000

def okM (r : List It) : Prop := ∀ x ∈ r, mayV x.1 = true ∧ okV x.1

theorem found {l : List Slot} {most n : Nat} {r : List It} (h : Ivt most n l) (hL : Lk n l r) {x : It} (hx : has l x.1 x.2.1) (hr : r.length ≤ 100000) : ∃ (k : Nat) (hk : k < r.length), ref19_Find r x.1 = some (((k : Int), ()), ()) ∧ r[k].2.1 = x.2.1 := by
 rcases ref_find r x.1 hr with ⟨k, hk, e, h1⟩ | ⟨_, h1⟩
 ·exact ⟨k, hk, e, has_one h (hL.find hk h1) hx⟩
 ·exact absurd hx (hL.none h1 x.2.1)

end Go.Proofs.Ytnaclmcmicckeaa

namespace Go.Proofs.Ytnaclmcmicckeaa
open Go Go.Pv Go.Proofs Go.L
set_option maxRecDepth 100000

theorem step_any {l : List Slot} {most n : Nat} {r : List It} (h : Ivt most n l) (hr : r.length ≤ 50000) {o : Op} (ho : okV o.2.2.1) :
  ∃ (l' : List Slot) (n' : Nat) (r' : List It) (b : Bool), law19_step_fa9 (l, (n : Int), (most : Int), ()) r (most : Int) o = some ((r', b, ()), (l', (n' : Int), (most : Int), ()), ()) ∧ Ivt most n' l' ∧ r'.length ≤ r.length + 1 := by
 have hke : ∀ k : K4, (k.1, k.2.1, k.2.2.1, ()) = k := fun _ => rfl
 have hmay := (mayV_ok ho).2
 unfold law19_step_fa9
 dsimp only
 rw [hke]
 generalize o.2.2.1 = k at *
 generalize o.2.1 = v
 have hfind := ref_find r k (by omega)
 by_cases h0 : o.1 = 0
 ·rw [decide_eq_true h0, cond_true]
  have hR : ∃ (r' : List It) (c : Int), ref19_Put r (most : Int) k v = some ((r', c, ()), ()) ∧ r'.length ≤ r.length + 1 := by
   unfold ref19_Put
   simp only [hke, hmay, Option.bind_some]
   cases mayV k with
   | false => exact ⟨r, 1, rfl, by omega⟩
   | true =>
    simp only [Bool.not_true, cond_false]
    rcases hfind with ⟨i, hi, ef, hk⟩ | ⟨ef, hk⟩
    ·simp only [ef, Option.bind_some, decide_eq_true (show (i : Int) ≥ 0 by omega), cond_true]
     exact ⟨r, 6, rfl, by omega⟩
    ·simp only [ef, Option.bind_some, decide_eq_false (show ¬ (-1 : Int) ≥ 0 by omega), cond_false]
     by_cases hm : (r.length : Int) ≥ (most : Int)
     ·simp only [decide_eq_true hm, cond_true]
      exact ⟨r, 8, rfl, by omega⟩
     ·simp only [decide_eq_false hm, cond_false, room32 (xs := []) (ys := r) (by simp; omega), List.nil_append, Option.bind_some, room32 (xs := r) (ys := [(k, v, ())]) (by simp; omega)]
      exact ⟨_, 0, rfl, by simp⟩
  obtain ⟨r', c, e, hl⟩ := hR
  rw [e, Option.bind_some]
  rcases put_ok h (v := v) ho with ⟨q, e⟩ | ⟨q, _, e⟩ | ⟨q, hn, hq, e⟩ | ⟨q, hn, hq, l', e, hI, hh⟩
  ·rw [e]; exact ⟨l, n, r', _, rfl, h, hl⟩
  ·rw [e]; exact ⟨l, n, r', _, rfl, h, hl⟩
  ·rw [e]; exact ⟨l, n, r', _, rfl, h, hl⟩
  ·rw [e]; exact ⟨l', n + 1, r', _, rfl, hI, hl⟩
 rw [decide_eq_false h0, cond_false]
 by_cases h1 : o.1 = 1
 ·rw [decide_eq_true h1, cond_true]
  have hR : ∃ (r' : List It) (c : Int), ref19_Set r k v = some ((r', c, ()), ()) ∧ r'.length ≤ r.length + 1 := by
   unfold ref19_Set
   simp only [hke, hmay, Option.bind_some]
   cases mayV k with
   | false => exact ⟨r, 1, rfl, by omega⟩
   | true =>
    simp only [Bool.not_true, cond_false]
    rcases hfind with ⟨i, hi, ef, hk⟩ | ⟨ef, hk⟩
    ·have hck : Option.map (fun _ => (i : Int)) (ckI (i : Int) r.length) = some (i : Int) := by
      unfold ckI
      rw [if_pos ⟨by omega, by omega⟩]; rfl
     simp only [ef, Option.bind_some, decide_eq_false (show ¬ (i : Int) < 0 by omega), cond_false, room32 (xs := []) (ys := r) (by simp; omega), List.nil_append, hck, rdI_get hi, Option.map_some]
     rw [stI_nat hi, Option.bind_some]
     exact ⟨_, 0, rfl, by simp⟩
    ·simp only [ef, Option.bind_some, decide_eq_true (show (-1 : Int) < 0 by omega), cond_true]
     exact ⟨r, 5, rfl, by omega⟩
  obtain ⟨r', c, e, hl⟩ := hR
  rw [e, Option.bind_some]
  rcases set_ok h (v := v) ho with ⟨q, e⟩ | ⟨q, hn, e⟩ | ⟨q, ⟨w, hw⟩, l', e, hI, hh⟩
  ·rw [e]; exact ⟨l, n, r', _, rfl, h, hl⟩
  ·rw [e]; exact ⟨l, n, r', _, rfl, h, hl⟩
  ·rw [e]; exact ⟨l', n, r', _, rfl, hI, hl⟩
 rw [decide_eq_false h1, cond_false]
 by_cases h2 : o.1 = 2
 ·rw [decide_eq_true h2, cond_true]
  have hR : ∃ (r' : List It) (c : Int), ref19_Drop r k = some ((r', c, ()), ()) ∧ r'.length ≤ r.length + 1 := by
   unfold ref19_Drop
   simp only [hke, hmay, Option.bind_some]
   cases mayV k with
   | false => exact ⟨r, 1, rfl, by omega⟩
   | true =>
    simp only [Bool.not_true, cond_false]
    rcases hfind with ⟨i, hi, ef, hk⟩ | ⟨ef, hk⟩
    ·have s1 : subL r 0 (i : Int) = some (r.take i) := by
      unfold subL
      rw [if_pos ⟨by omega, by omega, by omega⟩, Int.toNat_natCast]
      rfl
     have s2 : subL r ((i + 1 : Nat) : Int) (r.length : Int) = some (r.drop (i + 1)) := by
      unfold subL
      rw [if_pos ⟨by omega, by omega, by omega⟩, Int.toNat_natCast, Int.toNat_natCast, List.take_length]
     simp only [ef, Option.bind_some, decide_eq_false (show ¬ (i : Int) < 0 by omega), cond_false, s1, room32 (xs := []) (ys := r.take i) (by simp; omega), List.nil_append, wi64 (show i < 1000000000 by omega), s2, room32 (xs := r.take i) (ys := r.drop (i + 1)) (by simp; omega)]
     exact ⟨_, 0, rfl, by simp; omega⟩
    ·simp only [ef, Option.bind_some, decide_eq_true (show (-1 : Int) < 0 by omega), cond_true]
     exact ⟨r, 5, rfl, by omega⟩
  obtain ⟨r', c, e, hl⟩ := hR
  rw [e, Option.bind_some]
  rcases drop_ok h ho with ⟨q, e⟩ | ⟨q, hn, e⟩ | ⟨q, ⟨w, hw⟩, hn1, l', e, hI, hh⟩
  ·rw [e]; exact ⟨l, n, r', _, rfl, h, hl⟩
  ·rw [e]; exact ⟨l, n, r', _, rfl, h, hl⟩
  ·rw [e]; exact ⟨l', n - 1, r', _, rfl, hI, hl⟩
 rw [decide_eq_false h2, cond_false]
 have hG : ∃ (v : Int) (b : Bool), exact_Map_Get_ca4 (l, (n : Int), (most : Int), ()) k = some ((v, b, ()), (l, (n : Int), (most : Int), ()), ()) := by
  rcases get_ok h ho with ⟨v, q, hv, e⟩ | ⟨q, e⟩
  ·exact ⟨v, true, e⟩
  ·exact ⟨0, false, e⟩
 obtain ⟨v, b, e⟩ := hG
 rw [e, Option.bind_some, hmay, Option.bind_some]
 have gu : ∀ (c : Bool) (x : List It × Bool × Unit) (y : Mp × Unit), (guardR c (some ()) () fun _ => guardR c (some ()) () fun _ => some (x, y)) = some (x, y) := fun c x y => by cases c <;> rfl
 have gu1 : ∀ (c : Bool) (x : List It × Bool × Unit) (y : Mp × Unit), (guardR c (some ()) () fun _ => some (x, y)) = some (x, y) := fun c x y => by cases c <;> rfl
 cases mayV k with
 | false =>
  simp only [cond_false, decide_eq_true (show (-1 : Int) < 0 by omega), cond_true, gu]
  exact ⟨l, n, r, _, rfl, h, by omega⟩
 | true =>
  simp only [cond_true]
  rcases hfind with ⟨i, hi, ef, hk⟩ | ⟨ef, hk⟩
  ·simp only [hke, ef, Option.bind_some, decide_eq_false (show ¬ (i : Int) < 0 by omega), cond_false, rdI_get hi, gu1]
   exact ⟨l, n, r, _, rfl, h, by omega⟩
  ·simp only [hke, ef, Option.bind_some, decide_eq_true (show (-1 : Int) < 0 by omega), cond_true, gu]
   exact ⟨l, n, r, _, rfl, h, by omega⟩

theorem copies_loop {l : List Slot} {most n : Nat} {r : List It} (h : Ivt most n l) (hL : Lk n l r) {ys : List It} (hle : ys.length = n) (hmem : ∀ x ∈ ys, has l x.1 x.2.1) :
  loopR (fun (z : ((List It) × (List It) × Int × Unit) × (Unit)) => law19_ExactCopies_s4 z.1.1 z.1.2.1 z.1.2.2.1) ((r, ys, 0, ()), ()) = some ((true, ()), ()) := by
 have hsm := h.sm
 have hnm := h.nm
 have hbig := h.big
 have hlen := hL.len
 refine loop_up (fun i => ((r, ys, (i : Int), ()), ())) ys.length (fun i hi => ?_) ?_ 0 (by omega)
 ·dsimp only
  unfold law19_ExactCopies_s4
  obtain ⟨k, hk, e1, e2⟩ := found h hL (hmem _ (List.getElem_mem hi)) (by omega)
  have hd0 : decide ((k : Int) < 0) = false := decide_eq_false (by omega)
  rw [dlt hi, cond_true, ck_nat hi, rdI_nat hi]
  simp only [Option.map_some, Option.bind_some, e1, hd0, Bool.not_false, Bool.not_true, gtrue, rdI_nat hk, ck_nat hi, rdI_nat hi, e2, decide_true, cond_false, wi64 (show i < 1000000000 by omega)]
 ·dsimp only
  unfold law19_ExactCopies_s4
  rw [dge, cond_false, lives_ok]
  rfl

theorem copy_ok {l : List Slot} {most n : Nat} (h : Ivt most n l) (N M : Int) : exact_Map_Copy_bb9 (l, N, M, ()) = some (((l, N, M, ()), ()), (l, N, M, ()), ()) := by
 have hsm := h.sm
 have hbig := h.big
 have hm1 := h.m1
 unfold exact_Map_Copy_bb9 slices_Clone_exact_slot_exact_slot
 have he : l.isEmpty = false := by
  cases l with
  | nil => simp at hbig; omega
  | cons x l => rfl
 have hr : roomI 40 ([] : List Slot) l = some l := by
  unfold roomI
  rw [if_pos (by simp; omega), List.nil_append]
 dsimp only
 rw [he, cond_false, hr]
 rfl

theorem copies_ok {ops more : List Op} (ho : ∀ o ∈ ops, okV o.2.2.1) (hm : ∀ o ∈ more, okV o.2.2.1) : law19_ExactCopies ops more = some ((true, ()), ()) := by
 unfold law19_ExactCopies
 have g1 : exact_Map_Get_052 () (1, 0, 0, ()) = some ((0, false, ()), ()) := rfl
 have g2 : exact_Map_Put_01a () (1, 0, 0, ()) 1 = some ((1, ()), ()) := rfl
 have g3 : exact_Map_Set_01a () (1, 0, 0, ()) 1 = some ((1, ()), ()) := rfl
 have g4 : exact_Map_Drop_052 () (1, 0, 0, ()) = some ((1, ()), ()) := rfl
 have g5 : exact_Map_Len_d35 () = some ((0, ()), ()) := rfl
 have g6 : exact_Map_Room_d35 () = some ((0, ()), ()) := rfl
 have g7 : exact_Map_List_d35 () = some (((), ()), ()) := rfl
 have g8 : exact_Map_Copy_d35 () = some (((), ()), ()) := rfl
 simp only [g1, g2, g3, g4, g5, g6, g7, g8, Option.bind_some, decide_true, Bool.not_true, Bool.not_false, gtrue, cond_false]
 by_cases h1 : (ops.length : Int) > 200
 ·simp only [decide_eq_true h1, Bool.not_true, gfalse, cond_true, lives_ok, Option.bind_some]
 by_cases h2 : (more.length : Int) > 200
 ·simp only [decide_eq_false h1, decide_eq_true h2, Bool.not_false, gtrue, Option.bind_some, cond_true, cond_false, lives_ok]
 simp only [decide_eq_false h1, decide_eq_false h2, Bool.not_false, gtrue, Option.bind_some, cond_false]
 obtain ⟨l, e1, hI, hn⟩ := new_ok (most := 40) (by omega) (by omega)
 have e1 : exact_New 40 = some (.inr (((l, 0, 40, ()), ()), ())) := e1
 rw [e1, Option.bind_some]
 dsimp only
 refine loop_inv (P := fun i x => ∃ (l : List Slot) (n : Nat) (r : List It), Ivt 40 n l ∧ Lk n l r ∧ okM r ∧ x = ((ops, more, r, (), (i : Int), ()), (l, (n : Int), ((40 : Nat) : Int), ()), ())) (n := ops.length) ?_ ?_ _ 0 _ rfl (Nat.zero_le _) ⟨l, 0, [], hI, ⟨rfl, by simp, fun k v => ⟨fun q => absurd q (hn k v), fun q => by simp at q⟩⟩, fun x hx => (by cases hx), rfl⟩
 ·rintro i _ hi ⟨l, n, r, hI, hL, hV, rfl⟩
  dsimp only
  unfold law19_ExactCopies_s0
  dsimp only
  obtain ⟨l', n', r', e, hI', hL', hV'⟩ := step_ok hI hL (ho _ (List.getElem_mem hi))
  have e : law19_step_fa9 (l, (n : Int), ((40 : Nat) : Int), ()) r 40 ops[i] = some ((r', true, ()), (l', (n' : Int), ((40 : Nat) : Int), ()), ()) := e
  rw [dlt hi, cond_true, rdI_get hi, Option.bind_some, e, Option.bind_some]
  exact ⟨_, rfl, l', n', r', hI', hL', hV' hV, by rw [wi64 (by omega)]⟩
 ·rintro _ ⟨l, n, r, hI, hL, hV, rfl⟩
  dsimp only
  unfold law19_ExactCopies_s0
  dsimp only
  rw [dge, cond_false, copy_ok hI, Option.bind_some]
  dsimp only
  have main : loopR (fun (z : ((List Op) × (List It) × (List It) × Int × Unit) × (Mp × Mp × Unit)) => law19_ExactCopies_s2 z.1.1 z.1.2.1 z.1.2.2.1 z.1.2.2.2.1 z.2.1 z.2.2.1) ((more, r, [], 0, ()), (l, (n : Int), ((40 : Nat) : Int), ()), (l, (n : Int), ((40 : Nat) : Int), ()), ()) = some ((true, ()), ()) := by
   refine loop_inv (P := fun i x => ∃ (l2 : List Slot) (n2 : Nat) (r2 : List It), Ivt 40 n2 l2 ∧ r2.length ≤ i ∧ x = ((more, r, r2, (i : Int), ()), (l, (n : Int), ((40 : Nat) : Int), ()), (l2, (n2 : Int), ((40 : Nat) : Int), ()), ())) (n := more.length) ?_ ?_ _ 0 _ rfl (Nat.zero_le _) ⟨l, n, [], hI, by simp, rfl⟩
   ·rintro i _ hi ⟨l2, n2, r2, hI2, hr2, rfl⟩
    dsimp only
    unfold law19_ExactCopies_s2
    dsimp only
    obtain ⟨l', n', r', b, e, hI', hr'⟩ := step_any hI2 (r := r2) (by omega) (hm _ (List.getElem_mem hi))
    have e : law19_step_fa9 (l2, (n2 : Int), ((40 : Nat) : Int), ()) r2 40 more[i] = some ((r', b, ()), (l', (n' : Int), ((40 : Nat) : Int), ()), ()) := e
    rw [dlt hi, cond_true, rdI_get hi, Option.bind_some, e, Option.bind_some]
    exact ⟨_, rfl, l', n', r', hI', by omega, by rw [wi64 (by omega)]⟩
   ·rintro _ ⟨l2, n2, r2, hI2, hr2, rfl⟩
    dsimp only
    unfold law19_ExactCopies_s2
    dsimp only
    have hle : ((its l).mergeSort ile).length = r.length := by
     rw [List.length_mergeSort, its_len, hI.cnt, hL.len]
    have hlen := hL.len
    have eL : exact_Map_Len_bb9 (l, (n : Int), ((40 : Nat) : Int), ()) = some (((n : Int), ()), (l, (n : Int), ((40 : Nat) : Int), ()), ()) := rfl
    rw [dge, cond_false, list_ok hI _ _ (fun k v hk => (hV _ ((hL.all k v).1 hk)).2), Option.bind_some]
    have hnr : ((n : Int)) = (r.length : Int) := by omega
    simp only [hle, decide_true, Bool.not_true, Bool.not_false, gtrue, eL, Option.bind_some, decide_eq_true hnr, cond_false]
    rw [copies_loop hI hL (by rw [hle, hL.len]) (fun x hx => its_mem.1 (by simpa using hx))]
    rfl
  exact (congrArg (Option.map Sum.inr) main)

end Go.Proofs.Ytnaclmcmicckeaa
