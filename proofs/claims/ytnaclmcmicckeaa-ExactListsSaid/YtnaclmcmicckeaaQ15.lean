/- The functions of this seat, and the laws as plain Lean. -/
import Derived.Test.YtnaclmcmicckeaaQ14

set_option linter.unusedSimpArgs false
set_option linter.unusedVariables false

namespace Go.Proofs.Ytnaclmcmicckeaa
open Go Go.Pv Go.Proofs Go.L
set_option maxRecDepth 100000

def okM (r : List It) : Prop := ∀ x ∈ r, mayV x.1 = true ∧ okV x.1

theorem sorted_lt {l : List Slot} {most n : Nat} (h : Ivt most n l) (hv : ∀ k v, has l k v → okV k) {i : Nat} (hi : i + 1 < ((its l).mergeSort ile).length) : kcmp ((its l).mergeSort ile)[i].1 ((its l).mergeSort ile)[i + 1].1 < 0 := by
 have hp : ((its l).mergeSort ile).Pairwise fun a b => ile a b = true := List.pairwise_mergeSort ile_trans ile_total (its l)
 have hd : ((its l).mergeSort ile).Pairwise fun a b => a.1 ≠ b.1 := (List.mergeSort_perm (its l) ile).symm.pairwise (its_nd h) fun hxy => hxy.symm
 have hm : ∀ x ∈ (its l).mergeSort ile, okV x.1 := fun x hx => hv _ _ (its_mem.1 (by simpa using hx))
 have h1 := List.pairwise_iff_getElem.1 hp i (i + 1) (by omega) hi (by omega)
 have h2 := List.pairwise_iff_getElem.1 hd i (i + 1) (by omega) hi (by omega)
 have m1 := hm _ (List.getElem_mem (show i < ((its l).mergeSort ile).length by omega))
 have m2 := hm _ (List.getElem_mem hi)
 generalize ((its l).mergeSort ile)[i] = a at h1 h2 m1
 generalize ((its l).mergeSort ile)[i + 1] = b at h1 h2 m2
 unfold ile at h1
 simp only [Bool.not_eq_true', decide_eq_false_iff_not, kcmp_neg] at h1
 rw [kcmp_neg]
 unfold klt at h1 ⊢
 by_cases hk : a.1.1 < b.1.1 ∨ (a.1.1 = b.1.1 ∧ vn a.1 < vn b.1)
 ·exact hk
 ·exact absurd (okV_inj m1 m2 (by omega) (by omega)) h2

theorem found {l : List Slot} {most n : Nat} {r : List It} (h : Ivt most n l) (hL : Lk n l r) {x : It} (hx : has l x.1 x.2.1) (hr : r.length ≤ 100000) : ∃ (k : Nat) (hk : k < r.length), ref19_Find r x.1 = some (((k : Int), ()), ()) ∧ r[k].2.1 = x.2.1 := by
 rcases ref_find r x.1 hr with ⟨k, hk, e, h1⟩ | ⟨_, h1⟩
 ·exact ⟨k, hk, e, has_one h (hL.find hk h1) hx⟩
 ·exact absurd hx (hL.none h1 x.2.1)

theorem lists_loop {l : List Slot} {most n : Nat} {r : List It} (h : Ivt most n l) (hL : Lk n l r) (hv : okM r) {ys : List It} (hle : ys.length = n) (hst : ∀ i (hi : i + 1 < ys.length), kcmp ys[i].1 ys[i + 1].1 < 0) (hmem : ∀ x ∈ ys, has l x.1 x.2.1) :
  loopR (fun (z : ((List It) × (List It) × Int × Unit) × (Unit)) => law19_ExactLists_s2 z.1.1 z.1.2.1 z.1.2.2.1) ((r, ys, 0, ()), ()) = some ((true, ()), ()) := by
 have hsm := h.sm
 have hnm := h.nm
 have hbig := h.big
 have hlen := hL.len
 have hvk : ∀ k v, has l k v → mayV k = true ∧ okV k := fun k v hk => hv _ ((hL.all k v).1 hk)
 refine loop_up (fun i => ((r, ys, (i : Int), ()), ())) ys.length (fun i hi => ?_) ?_ 0 (by omega)
 ·dsimp only
  unfold law19_ExactLists_s2
  obtain ⟨k, hk, e1, e2⟩ := found h hL (hmem _ (List.getElem_mem hi)) (by omega)
  have hd0 : decide ((k : Int) < 0) = false := decide_eq_false (by omega)
  rw [dlt hi, cond_true, ck_nat hi, rdI_nat hi]
  by_cases hi0 : i = 0
  ·subst hi0
   simp only [Option.map_some, Option.bind_some, e1, hd0, Bool.not_false, Bool.not_true, gtrue, rdI_nat hk, ck_nat hi, rdI_nat hi, e2, decide_true, cond_false, show decide (((0 : Nat) : Int) > 0) = false from rfl, Bool.and_false, gfalse, wi64 (show 0 < 1000000000 by omega)]
  ·obtain ⟨j, rfl⟩ : ∃ j, i = j + 1 := ⟨i - 1, by omega⟩
   have hj : j < ys.length := by omega
   have m1 := hvk _ _ (hmem _ (List.getElem_mem hj))
   have m2 := hvk _ _ (hmem _ (List.getElem_mem hi))
   have hl := less_ok m1.2 m2.2 m1.1 m2.1
   rw [decide_eq_true (hst j hi)] at hl
   have hw : IntKind.i64.wrap (((j + 1 : Nat) : Int) - 1) = (j : Int) := by
    rw [wrap_i64 (by omega) (by omega)]
    omega
   simp only [Option.map_some, Option.bind_some, e1, hd0, Bool.not_false, Bool.not_true, gtrue, rdI_nat hk, ck_nat hi, rdI_nat hi, e2, decide_true, cond_false, cond_true, decide_eq_true (show ((j + 1 : Nat) : Int) > 0 by omega), Bool.and_self, hw, ck_nat hj, rdI_nat hj, hl, wi64 (show j + 1 < 1000000000 by omega)]
 ·dsimp only
  unfold law19_ExactLists_s2
  rw [dge, cond_false, lives_ok]
  rfl

theorem lists_ok {most : Int} {ops : List Op} (ho : ∀ o ∈ ops, okV o.2.2.1) : law19_ExactLists most ops = some ((true, ()), ()) := by
 unfold law19_ExactLists
 by_cases hm : 1 ≤ most ∧ most ≤ 256
 ·obtain ⟨m, rfl⟩ : ∃ m : Nat, most = (m : Int) := ⟨most.toNat, by omega⟩
  obtain ⟨l, e1, h1, hn⟩ := new_ok (most := m) (by omega) (by omega)
  rw [e1, Option.bind_some]
  simp only [decide_eq_false (show ¬ (m : Int) < 1 by omega), decide_eq_false (show ¬ (m : Int) > 256 by omega), gtrue, Option.bind_some, Bool.not_false, cond_true, cond_false]
  by_cases hl : (ops.length : Int) > 400
  ·simp only [decide_eq_true hl, cond_true, decide_true, gtrue, lives_ok, Option.bind_some]
  ·simp only [decide_eq_false hl, cond_false]
   refine loop_inv (P := fun i x => ∃ (l : List Slot) (n : Nat) (r : List It), Ivt m n l ∧ Lk n l r ∧ okM r ∧ x = (((m : Int), ops, r, (i : Int), ()), (l, (n : Int), (m : Int), ()), ())) (n := ops.length) ?_ ?_ _ 0 _ rfl (Nat.zero_le _) ⟨l, 0, [], h1, ⟨rfl, by simp, fun k v => ⟨fun q => absurd q (hn k v), fun q => by simp at q⟩⟩, fun x hx => (by cases hx), rfl⟩
   ·rintro i _ hi ⟨l, n, r, hI, hL, hV, rfl⟩
    dsimp only
    unfold law19_ExactLists_s0
    dsimp only
    obtain ⟨l', n', r', e, hI', hL', hV'⟩ := step_ok hI hL (ho _ (List.getElem_mem hi))
    have hlen4 : ops.length ≤ 400 := by omega
    rw [dlt hi, cond_true, rdI_get hi, Option.bind_some, e, Option.bind_some]
    exact ⟨_, rfl, l', n', r', hI', hL', hV' hV, by rw [wi64 (by omega)]⟩
   ·rintro _ ⟨l, n, r, hI, hL, hV, rfl⟩
    dsimp only
    unfold law19_ExactLists_s0
    have hle : ((its l).mergeSort ile).length = r.length := by
     rw [List.length_mergeSort, its_len, hI.cnt, hL.len]
    rw [dge, cond_false, list_ok hI _ _ (fun k v hk => (hV _ ((hL.all k v).1 hk)).2), Option.bind_some]
    dsimp only
    rw [hle, decide_eq_true rfl, Bool.not_true, cond_false, lists_loop hI hL hV (by rw [hle, hL.len]) (fun i hi => sorted_lt hI (fun k v hk => (hV _ ((hL.all k v).1 hk)).2) hi) (fun x hx => its_mem.1 (by simpa using hx))]
    rfl
 ·rw [new_bad hm, Option.bind_some]
  by_cases h1 : most < 1
  ·simp only [decide_eq_true h1, Bool.not_true, gfalse, cond_true, decide_true, gtrue, lives_ok, Option.bind_some]
  ·simp only [decide_eq_false h1, Bool.not_false, gtrue, Option.bind_some, decide_eq_true (show most > 256 by omega), cond_false, decide_true, cond_true, lives_ok]

end Go.Proofs.Ytnaclmcmicckeaa
