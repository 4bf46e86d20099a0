/- The functions of this seat, and the laws as plain Lean. -/
import Derived.Test.YtffgheglileflaaQ11

set_option linter.unusedSimpArgs false
set_option linter.unusedVariables false

namespace Go.Proofs.Ytffgheglileflaa
open Go Go.Pv Go.Proofs Go.L
set_option maxRecDepth 100000

abbrev VV := Int × Int × Int × Unit
abbrev OpW := Int × Int × Int × Int × VV × List Int × List VV × List Int × Unit

/-- one step of reading -/
def rdOp (b : List Int) (s : Sta) (o : OpW) : Sta :=
  if o.1 = 0 then (rdNum b s.1 s.2 1 o.2.2.1).2
  else if o.1 = 1 then (rdNum b s.1 s.2 2 o.2.2.1).2
  else if o.1 = 2 then (rdNum b s.1 s.2 4 o.2.2.1).2
  else if o.1 = 3 then (rdVec b s).2
  else if o.1 = 4 then (rdName b s).2
  else if o.1 = 5 then (rdVecs b s o.2.2.1).2
  else if o.1 = 6 then (rdNums b s o.2.2.1 o.2.2.2.1).2
  else if o.1 = 7 then (s.1, bif s.2.isNone && !decide (o.2.1 = 0) then some (o.2.1, (s.1 : Int), ()) else s.2)
  else s

theorem okT_op {b : List Int} {s : Sta} {o : OpW} (h : okT b s) : okT b (rdOp b s o) := by
  unfold rdOp
  split
  · exact h.num
  split
  · exact h.num
  split
  · exact h.num
  split
  · exact h.vec
  split
  · exact h.name
  split
  · exact h.vecs
  split
  · exact h.nums
  split
  · refine ⟨h.1, ?_⟩
    obtain ⟨a, f⟩ := s
    cases f with
    | some f => exact h.2
    | none =>
      dsimp only
      by_cases h0 : o.2.1 = 0
      · rw [decide_eq_true h0]; exact okF_none
      · rw [decide_eq_false h0]; exact okF_some h0
  · exact h

theorem rdI_i {α : Type} {l : List α} {i : Nat} (h : i < l.length) : rdI l (i : Int) = some l[i] := by
  unfold rdI
  rw [if_pos (by omega), Int.toNat_natCast, List.getElem?_eq_getElem h]

theorem ck_i {α : Type} {l : List α} {i : Nat} (h : i < l.length) : Option.map (fun _ => (i : Int)) (ckI (i : Int) l.length) = some (i : Int) := by
  unfold ckI
  rw [if_pos ⟨by omega, by omega⟩]; rfl

/-- a list is the same as itself -/
theorem same_vecs (l : List VV) (hl : l.length ≤ 1000) (x : RRd) (r : Rdr) : loopR (fun (z : ((List VV) × (List VV) × Bool × Int × Unit) × (RRd × (Unit × Int × Int × Int × Unit) × Rdr × Unit)) => law07_reads_7f6_s3 z.1.1 z.1.2.1 z.1.2.2.1 z.1.2.2.2.1 z.2.1 z.2.2.1 z.2.2.2.1) ((l, l, true, 0, ()), x, ((), 0, 0, 0, ()), r, ()) = some ((x, true, ()), r, ()) := by
  have key := loop_up (f := fun (z : ((List VV) × (List VV) × Bool × Int × Unit) × (RRd × (Unit × Int × Int × Int × Unit) × Rdr × Unit)) => law07_reads_7f6_s3 z.1.1 z.1.2.1 z.1.2.2.1 z.1.2.2.2.1 z.2.1 z.2.2.1 z.2.2.2.1) (fun i => ((l, l, true, (i : Int), ()), x, ((), 0, 0, 0, ()), r, ())) l.length (r := ((x, true, ()), r, ()))
    (fun i hi => by
      dsimp only
      unfold law07_reads_7f6_s3
      rw [dlt hi]
      simp only [gtrue, Option.bind_some, cond_true, ck_i hi, rdI_i hi, decide_true, Bool.and_self, wi64 (show i < 1000000000 by omega)])
    (by
      dsimp only
      unfold law07_reads_7f6_s3
      rw [dge]
      simp only [gfalse, cond_false]) 0 (Nat.zero_le _)
  exact key

theorem same_nums (l : List Int) (hl : l.length ≤ 1000) (x : RRd) (r : Rdr) : loopR (fun (z : ((List Int) × (List Int) × Bool × Int × Unit) × (RRd × (Unit × Int × Int × Int × Unit) × Rdr × Unit)) => law07_reads_7f6_s7 z.1.1 z.1.2.1 z.1.2.2.1 z.1.2.2.2.1 z.2.1 z.2.2.1 z.2.2.2.1) ((l, l, true, 0, ()), x, ((), 0, 0, 0, ()), r, ()) = some ((x, true, ()), r, ()) := by
  have key := loop_up (f := fun (z : ((List Int) × (List Int) × Bool × Int × Unit) × (RRd × (Unit × Int × Int × Int × Unit) × Rdr × Unit)) => law07_reads_7f6_s7 z.1.1 z.1.2.1 z.1.2.2.1 z.1.2.2.2.1 z.2.1 z.2.2.1 z.2.2.2.1) (fun i => ((l, l, true, (i : Int), ()), x, ((), 0, 0, 0, ()), r, ())) l.length (r := ((x, true, ()), r, ()))
    (fun i hi => by
      dsimp only
      unfold law07_reads_7f6_s7
      rw [dlt hi]
      simp only [gtrue, Option.bind_some, cond_true, ck_i hi, rdI_i hi, decide_true, Bool.and_self, wi64 (show i < 1000000000 by omega)])
    (by
      dsimp only
      unfold law07_reads_7f6_s7
      rw [dge]
      simp only [gfalse, cond_false]) 0 (Nat.zero_le _)
  exact key

theorem vecs_step {b : List Int} {s : Sta} {m : Int} (hb : okB b) (h : okT b s) (r : Rdr) : (ref07_Count (toRef b s) m).bind (fun r_29 => loopR (fun (z : ((List VV) × Int × (List VV) × Int × Unit) × (RRd × (Unit × Int × Int × Int × Unit) × Rdr × Unit)) => law07_reads_7f6_s1 z.1.1 z.1.2.1 z.1.2.2.1 z.1.2.2.2.1 z.2.1 z.2.2.1 z.2.2.2.1) (((rdVecs b s m).1, r_29.1.2.1, [], 0, ()), r_29.1.1, ((), 0, 0, 0, ()), r, ())) = some ((toRef b (rdVecs b s m).2, true, ()), r, ()) := by
  have hc := rdCount_ge (s := s) (m := m) hb
  have hS := h.count (m := m)
  rw [ref_count' hb h.1 h.2, Option.bind_some]
  unfold rdVecs
  dsimp only
  generalize rdCount b s m = C at *
  obtain ⟨n, hn⟩ : ∃ n : Nat, C.1 = (n : Int) := ⟨C.1.toNat, by omega⟩
  rw [hn, Int.toNat_natCast]
  have hlen := (seqV_ok (b := b) hS n).2
  have key := loop_up (f := fun (z : ((List VV) × Int × (List VV) × Int × Unit) × (RRd × (Unit × Int × Int × Int × Unit) × Rdr × Unit)) => law07_reads_7f6_s1 z.1.1 z.1.2.1 z.1.2.2.1 z.1.2.2.2.1 z.2.1 z.2.2.1 z.2.2.2.1) (fun i => (((bif (seqV b n C.2).2.2.isNone then (seqV b n C.2).1 else []), (n : Int), (seqV b i C.2).1, (i : Int), ()), toRef b (seqV b i C.2).2, ((), 0, 0, 0, ()), r, ())) n
    (r := ((toRef b (seqV b n C.2).2, true, ()), r, ()))
    (fun i hi => by
      dsimp only
      unfold law07_reads_7f6_s1
      have hq := seqV_ok (b := b) hS i
      rw [dlt hi, cond_true, rr_eta, ref_vec hb hq.1.1 hq.1.2, Option.bind_some]
      dsimp only
      rw [room24 (by rw [hq.2]; simp only [List.length_cons, List.length_nil]; omega), Option.bind_some, wi64 (by omega)]
      rfl)
    (by
      dsimp only
      unfold law07_reads_7f6_s1
      have hq := seqV_ok (b := b) hS n
      have h0 : decide ((toRef b (seqV b n C.2).2).2.2.1 = 0) = (seqV b n C.2).2.2.isNone := fE_none _ hq.1.2
      rw [dge, cond_false, h0, rr_eta]
      cases (seqV b n C.2).2.2.isNone with
      | false => rfl
      | true =>
        simp only [Bool.not_true, cond_false, cond_true, decide_true]
        rw [same_vecs _ (by omega)]
        rfl) 0 (Nat.zero_le _)
  exact key

theorem nums_step {b : List Int} {s : Sta} {m : Int} {o : OpW} (hb : okB b) (h : okT b s) (r : Rdr) : (ref07_Count (toRef b s) m).bind (fun r_29 => loopR (fun (z : ((List Int) × Int × (List Int) × Int × Unit) × (RRd × OpW × (Unit × Int × Int × Int × Unit) × Rdr × Unit)) => law07_reads_7f6_s5 z.1.1 z.1.2.1 z.1.2.2.1 z.1.2.2.2.1 z.2.1 z.2.2.1 z.2.2.2.1 z.2.2.2.2.1) (((rdNums b s m o.2.2.2.1).1, r_29.1.2.1, [], 0, ()), r_29.1.1, o, ((), 0, 0, 0, ()), r, ())) = some ((toRef b (rdNums b s m o.2.2.2.1).2, true, ()), r, ()) := by
  have hc := rdCount_ge (s := s) (m := m) hb
  have hS := h.count (m := m)
  rw [ref_count' hb h.1 h.2, Option.bind_some]
  unfold rdNums
  dsimp only
  generalize rdCount b s m = C at *
  obtain ⟨n, hn⟩ : ∃ n : Nat, C.1 = (n : Int) := ⟨C.1.toNat, by omega⟩
  rw [hn, Int.toNat_natCast]
  have hlen := (seqN_ok (b := b) (m := o.2.2.2.1) hS n).2
  have key := loop_up (f := fun (z : ((List Int) × Int × (List Int) × Int × Unit) × (RRd × OpW × (Unit × Int × Int × Int × Unit) × Rdr × Unit)) => law07_reads_7f6_s5 z.1.1 z.1.2.1 z.1.2.2.1 z.1.2.2.2.1 z.2.1 z.2.2.1 z.2.2.2.1 z.2.2.2.2.1) (fun i => (((bif (seqN b o.2.2.2.1 n C.2).2.2.isNone then (seqN b o.2.2.2.1 n C.2).1 else []), (n : Int), (seqN b o.2.2.2.1 i C.2).1, (i : Int), ()), toRef b (seqN b o.2.2.2.1 i C.2).2, o, ((), 0, 0, 0, ()), r, ())) n
    (r := ((toRef b (seqN b o.2.2.2.1 n C.2).2, true, ()), r, ()))
    (fun i hi => by
      dsimp only
      unfold law07_reads_7f6_s5
      have hq := seqN_ok (b := b) (m := o.2.2.2.1) hS i
      rw [dlt hi, cond_true, rr_eta, take1 hb hq.1, Option.bind_some]
      dsimp only
      rw [room8 (by rw [hq.2]; simp only [List.length_cons, List.length_nil]; omega), Option.bind_some, wi64 (by omega)]
      rfl)
    (by
      dsimp only
      unfold law07_reads_7f6_s5
      have hq := seqN_ok (b := b) (m := o.2.2.2.1) hS n
      have h0 : decide ((toRef b (seqN b o.2.2.2.1 n C.2).2).2.2.1 = 0) = (seqN b o.2.2.2.1 n C.2).2.2.isNone := fE_none _ hq.1.2
      rw [dge, cond_false, h0, rr_eta]
      cases (seqN b o.2.2.2.1 n C.2).2.2.isNone with
      | false => rfl
      | true =>
        simp only [Bool.not_true, cond_false, cond_true, decide_true]
        rw [same_nums _ (by omega)]
        rfl) 0 (Nat.zero_le _)
  exact key

theorem reads_ok {b : List Int} {s : Sta} {o : OpW} (hb : okB b) (h : okT b s) : law07_reads_7f6 (rd b (s.1 : Int) s.2) (toRef b s) o = some ((toRef b (rdOp b s o), true, ()), rd b ((rdOp b s o).1 : Int) (rdOp b s o).2, ()) := by
  have hrx : ∀ x : RRd, ((x.1, x.2.1, x.2.2.1, x.2.2.2.1, ()) : RRd) = x := fun _ => rfl
  have hre : (((rd b (s.1 : Int) s.2).1.1, (rd b (s.1 : Int) s.2).1.2.1, (rd b (s.1 : Int) s.2).1.2.2.1, ()), ()) = rd b (s.1 : Int) s.2 := rfl
  have ho : ((o.1, o.2.1, o.2.2.1, o.2.2.2.1, (o.2.2.2.2.1.1, o.2.2.2.2.1.2.1, o.2.2.2.2.1.2.2.1, ()), o.2.2.2.2.2.1, o.2.2.2.2.2.2.1, o.2.2.2.2.2.2.2.1, ()) : OpW) = o := rfl
  have s0 : shlI .i64 1 (IntKind.u64.wrap 0) = some 1 := rfl
  have s1 : shlI .i64 1 (IntKind.u64.wrap 1) = some 2 := rfl
  have s2 : shlI .i64 1 (IntKind.u64.wrap 2) = some 4 := rfl
  unfold law07_reads_7f6 rdOp
  rw [hrx, hre, ho]
  by_cases h0 : o.1 = 0
  · simp only [h0, decide_true, cond_true, if_true, byte_rd hb h.1, s0, take1 hb h, Option.bind_some]
  by_cases h1 : o.1 = 1
  · simp only [h1, decide_true, Int.reduceEq, decide_false, cond_true, cond_false, if_true, if_false, two_rd hb h.1, s1, take2 hb h, Option.bind_some]
  by_cases h2 : o.1 = 2
  · simp only [h2, decide_true, Int.reduceEq, decide_false, cond_true, cond_false, if_true, if_false, four_rd hb h.1, s2, take4 hb h, Option.bind_some]
  rw [decide_eq_false h0, decide_eq_false h1, decide_eq_false h2, if_neg h0, if_neg h1, if_neg h2]
  simp only [cond_false]
  by_cases h3 : o.1 = 3
  · simp only [h3, decide_true, cond_true, if_true, vec_rd hb h.1, ref_vec hb h.1 h.2, Option.bind_some, Bool.and_self]
  rw [decide_eq_false h3, if_neg h3, cond_false]
  by_cases h4 : o.1 = 4
  · simp only [h4, decide_true, cond_true, if_true, name_rd hb h, ref_name hb h, Option.bind_some]
  rw [decide_eq_false h4, if_neg h4, cond_false]
  by_cases h5 : o.1 = 5
  · rw [decide_eq_true h5, if_pos h5, cond_true, vecs_rd' hb h, Option.bind_some]
    exact vecs_step hb h _
  rw [decide_eq_false h5, if_neg h5, cond_false]
  by_cases h6 : o.1 = 6
  · rw [decide_eq_true h6, if_pos h6, cond_true, nums_rd' hb h, Option.bind_some]
    exact nums_step hb h _
  rw [decide_eq_false h6, if_neg h6, cond_false]
  by_cases h7 : o.1 = 7
  · rw [decide_eq_true h7, if_pos h7, cond_true]
    unfold wire_Reader_Fail_e57
    have hx : decide ((toRef b s).2.2.1 = 0) = s.2.isNone := fE_none _ h.2
    rw [fail_ba6, Option.bind_some, Option.bind_some, hx]
    obtain ⟨a, f⟩ := s
    cases f with
    | some f => rfl
    | none =>
      simp only [Option.isNone_none, gtrue, Option.bind_some, cond_true, Bool.true_and]
      cases decide (o.2.1 = 0) <;> rfl
  · rw [decide_eq_false h7, if_neg h7, cond_false]

theorem wireReads_ok {b : List Int} {ops : List OpW} (hu : ∀ v ∈ b, inR .u8 v = true) : law07_WireReads b ops = some ((true, ()), ()) := by
  unfold law07_WireReads
  obtain ⟨r, e, hr⟩ := light_ok ops
  by_cases hlen : (b.length : Int) > 500
  · rw [decide_eq_true hlen]
    simp only [Bool.not_true, gfalse, cond_true, lives_ok, Option.bind_some]
  · rw [decide_eq_false hlen]
    simp only [Bool.not_false, gtrue, e, Option.bind_some, cond_false]
    cases r with
    | false => simp only [Bool.not_false, cond_true, lives_ok, Option.bind_some]
    | true =>
      obtain ⟨hl, _⟩ := hr rfl
      have hb : okB b := ⟨hu, by omega⟩
      unfold wire_Read
      rw [Bool.not_true, cond_false, bytes_Clone_ok (by omega), Option.bind_some, Option.bind_some]
      dsimp only
      refine loop_inv (f := fun (z : ((List OpW) × Int × Unit) × (Rdr × RRd × Unit)) => law07_WireReads_s0 z.1.1 z.1.2.1 z.2.1 z.2.2.1) (P := fun i x => ∃ s : Sta, okT b s ∧ x = ((ops, (i : Int), ()), rd b (s.1 : Int) s.2, toRef b s, ())) (n := ops.length) (r := ((true, ()), ())) ?_ ?_ ops.length 0 _ (by omega) (by omega) ⟨(0, none), ⟨Nat.zero_le _, okF_none⟩, rfl⟩
      · rintro i x hi ⟨s, hs, rfl⟩
        have hs' := okT_op (o := ops[i]) hs
        have hk := reads_ok (o := ops[i]) hb hs
        refine ⟨((ops, ((i + 1 : Nat) : Int), ()), rd b ((rdOp b s ops[i]).1 : Int) (rdOp b s ops[i]).2, toRef b (rdOp b s ops[i]), ()), ?_, rdOp b s ops[i], hs', rfl⟩
        dsimp only
        unfold law07_WireReads_s0
        have hrx : ∀ x : RRd, ((x.1, x.2.1, x.2.2.1, x.2.2.2.1, ()) : RRd) = x := fun _ => rfl
        have hre : (((rd b (s.1 : Int) s.2).1.1, (rd b (s.1 : Int) s.2).1.2.1, (rd b (s.1 : Int) s.2).1.2.2.1, ()), ()) = rd b (s.1 : Int) s.2 := rfl
        rw [dlt hi, cond_true, rdI_i hi, Option.bind_some, hrx, hre, hk, Option.bind_some]
        generalize rdOp b s ops[i] = q at *
        have ha := hs'.1
        have hA : wire_Reader_At_59d (rd b (q.1 : Int) q.2) = some (((q.1 : Int), ()), rd b (q.1 : Int) q.2, ()) := rfl
        have hL : wire_Reader_Left_59d (rd b (q.1 : Int) q.2) = some ((((b.length - q.1 : Nat) : Int), ()), rd b (q.1 : Int) q.2, ()) := by
          unfold wire_Reader_Left_59d
          have e1 : IntKind.i64.wrap ((b.length : Int) - (q.1 : Int)) = ((b.length - q.1 : Nat) : Int) := by rw [wrap_i64 (by omega) (by omega)]; omega
          dsimp only
          rw [e1]
        have hB : wire_Reader_Bad_59d (rd b (q.1 : Int) q.2) = some ((!q.2.isNone, ()), rd b (q.1 : Int) q.2, ()) := rfl
        have hx : decide ((toRef b q).2.2.1 = 0) = q.2.isNone := fE_none _ hs'.2
        have hat : (toRef b q).2.1 = (q.1 : Int) := rfl
        have hle : (toRef b q).1.length = b.length - q.1 := List.length_drop
        simp only [Bool.not_true, Bool.not_false, gtrue, hA, hat, decide_true, Option.bind_some, cond_false, cond_true, hL, hle, hB, hx, wi64 (show i < 1000000000 by omega)]
      · rintro x ⟨s, hs, rfl⟩
        dsimp only
        unfold law07_WireReads_s0
        have hrx : ∀ x : RRd, ((x.1, x.2.1, x.2.2.1, x.2.2.2.1, ()) : RRd) = x := fun _ => rfl
        have hre : (((rd b (s.1 : Int) s.2).1.1, (rd b (s.1 : Int) s.2).1.2.1, (rd b (s.1 : Int) s.2).1.2.2.1, ()), ()) = rd b (s.1 : Int) s.2 := rfl
        rw [dge, cond_false, hrx, hre, end_rd hb hs, Option.bind_some]
        dsimp only
        rw [why_end, Option.bind_some, end_ref hs, Option.bind_some]
        simp only [decide_true, gtrue, Option.bind_some, cond_true, lives_ok, Option.map_some]

end Go.Proofs.Ytffgheglileflaa
