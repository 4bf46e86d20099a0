/- The functions that the statements reach as plain Lean, and what they compute. -/
import Derived.Test.YtplljenbabhjbaaQ9

set_option linter.unusedSimpArgs false
set_option linter.unusedVariables false

namespace Go.L
open Go Go.Pv
set_option maxRecDepth 100000

def bytesU (u : Up) : List Int :=
  be (nat64 u.1) 1 ++ (if u.1 = 4 then be (nat64 u.2.2.2.1) 1 ++ encNums u.2.2.2.2.1 else
    be (nat64 u.2.1) 1 ++ ((if u.1 = 3 then [] else encVecs u.2.2.1.1 ++ (encVecs u.2.2.1.2.1 ++ (be (nat64 u.2.2.1.2.2.1) 2 ++ be (nat64 u.2.2.1.2.2.2.1) 2))) ++
      (if u.1 = 2 then [] else be (nat64 u.2.2.1.2.2.2.2.1.1) 1 ++ encVecs u.2.2.1.2.2.2.2.1.2.1)))

theorem be_one (n : Int) : be (nat64 n) 1 = [IntKind.u8.wrap n] := by
  have : be (nat64 n) 1 = [((nat64 n % 256 : Nat) : Int)] := by
    unfold be
    rw [lrow_succ, lrow_zero]
    simp
  rw [this, wu8]
  congr 1
  have := nat64_eq n
  omega

theorem wire_Byte_is {b : List Int} {n : Int} (hb : b.length ≤ 1000000) : wire_Byte b n = some ((b ++ be (nat64 n) 1, ()), ()) := by
  have h : wire_put b n 1 = _ := wire_put_ok (m := 1) hb (by omega)
  unfold wire_Byte
  rw [h]; rfl

theorem wire_Two_is {b : List Int} {n : Int} (hb : b.length ≤ 1000000) : wire_Two b n = some ((b ++ be (nat64 n) 2, ()), ()) := by
  have h : wire_put b n 2 = _ := wire_put_ok (m := 2) hb (by omega)
  unfold wire_Two
  rw [h]; rfl

theorem emp {α : Type} {l : List α} (h : l.isEmpty = true) : l.length = 0 := by
  cases l with
  | nil => rfl
  | cons a l => cases h

theorem mayU_len {u : Up} (h : mayU u = true) : (u.1 = 0 ∨ u.1 = 1 ∨ u.1 = 2 ∨ u.1 = 3 ∨ u.1 = 4) ∧ u.2.2.1.1.length ≤ 8 ∧ u.2.2.1.2.1.length ≤ 8 ∧ u.2.2.1.2.2.2.2.1.2.1.length ≤ 8 ∧ u.2.2.2.2.1.length ≤ 64 := by
  unfold mayU tabB grpB hasRows hasCall noRows noCall rowsB at h
  split at h
  · simp only [Bool.and_eq_true, decide_eq_true_eq] at h
    have := emp h.1.1.2
    exact ⟨by omega, by omega, by omega, by omega, by omega⟩
  split at h
  · simp only [Bool.and_eq_true, decide_eq_true_eq] at h
    have := emp h.1.1.2
    have := emp h.2.2
    exact ⟨by omega, by omega, by omega, by omega, by omega⟩
  split at h
  · simp only [Bool.and_eq_true, decide_eq_true_eq] at h
    have := emp h.1.1.2
    have := emp h.1.2.1.1.1
    have := emp h.1.2.1.1.2
    exact ⟨by omega, by omega, by omega, by omega, by omega⟩
  split at h
  · simp only [Bool.and_eq_true, decide_eq_true_eq] at h
    obtain ⟨⟨⟨⟨⟨h1, h2⟩, h3⟩, h4⟩, h5⟩, h6⟩ := h
    have := emp h2.1.1.1
    have := emp h2.1.1.2
    have := emp h3.2
    exact ⟨by omega, by omega, by omega, by omega, by omega⟩
  · cases h

theorem encVecs_len {l : List V4} (h : l.length ≤ 8) : (encVecs l).length ≤ 137 := by
  unfold encVecs
  have := encs_len l
  split
  · rw [List.length_cons]; omega
  · simp

theorem encNums_len {l : List Int} (h : l.length ≤ 64) : (encNums l).length ≤ 65 := by
  unfold encNums
  split
  · simp; omega
  · simp

theorem bytesU_len {u : Up} (h : mayU u = true) : (bytesU u).length ≤ 500 := by
  obtain ⟨_, h1, h2, h3, h4⟩ := mayU_len h
  have := encVecs_len h1
  have := encVecs_len h2
  have := encVecs_len h3
  have := encNums_len h4
  unfold bytesU
  split
  · simp only [List.length_append, be_len]; omega
  · split <;> split <;> simp only [List.length_append, be_len, List.length_nil] <;> omega

theorem one_ok {b : List Int} {u : Up} (hb : b.length ≤ 700000) (ho : okU u) (h : mayU u = true) : batch_one b u = some ((b ++ bytesU u, ()), ()) := by
  obtain ⟨hk, h1, h2, h3, h4⟩ := mayU_len h
  have l1 := encVecs_len h1
  have l2 := encVecs_len h2
  have l3 := encVecs_len h3
  obtain ⟨k, u⟩ := u
  have v1 : ∀ c : List Int, c.length ≤ 701000 → wire_Vecs c u.2.1.1 = _ := fun c hc => wire_Vecs_ok (b := c) (by omega) ho.1.1
  have v2 : ∀ c : List Int, c.length ≤ 701000 → wire_Vecs c u.2.1.2.1 = _ := fun c hc => wire_Vecs_ok (b := c) (by omega) ho.2.1.1
  have v3 : ∀ c : List Int, c.length ≤ 701000 → wire_Vecs c u.2.1.2.2.2.2.1.2.1 = _ := fun c hc => wire_Vecs_ok (b := c) (by omega) ho.2.2.1.1
  unfold batch_one bytesU
  dsimp only at hk h1 h2 h3 h4 l1 l2 l3 ⊢
  rw [wire_Byte_is (by omega), Option.bind_some, matches_ok, calls_ok]
  dsimp only
  rcases hk with rfl | rfl | rfl | rfl | rfl
  · simp only [decide_true, decide_false, Int.reduceEq, cond_true, cond_false, Bool.or_true, Bool.true_or, Bool.or_false, if_false]
    rw [wire_Byte_is (by simp [be_len]; omega), Option.bind_some]
    dsimp only
    simp only [Option.bind_some, cond_true]
    rw [v1 _ (by simp [be_len]; omega), Option.bind_some]
    dsimp only
    rw [v2 _ (by simp [be_len]; omega), Option.bind_some]
    dsimp only
    rw [wire_Two_is (by simp [be_len]; omega), Option.bind_some]
    dsimp only
    rw [wire_Two_is (by simp [be_len]; omega), Option.bind_some]
    dsimp only
    rw [wire_Byte_is (by simp [be_len]; omega), Option.bind_some]
    dsimp only
    rw [v3 _ (by simp [be_len]; omega), Option.bind_some]
    simp only [List.append_assoc]
  · simp only [decide_true, decide_false, Int.reduceEq, cond_true, cond_false, Bool.or_true, Bool.true_or, Bool.or_false, Bool.false_or, if_false]
    rw [wire_Byte_is (by simp [be_len]; omega), Option.bind_some]
    dsimp only
    simp only [Option.bind_some, cond_true]
    rw [v1 _ (by simp [be_len]; omega), Option.bind_some]
    dsimp only
    rw [v2 _ (by simp [be_len]; omega), Option.bind_some]
    dsimp only
    rw [wire_Two_is (by simp [be_len]; omega), Option.bind_some]
    dsimp only
    rw [wire_Two_is (by simp [be_len]; omega), Option.bind_some]
    dsimp only
    rw [wire_Byte_is (by simp [be_len]; omega), Option.bind_some]
    dsimp only
    rw [v3 _ (by simp [be_len]; omega), Option.bind_some]
    simp only [List.append_assoc]
  · simp only [decide_true, decide_false, Int.reduceEq, cond_true, cond_false, Bool.or_true, Bool.true_or, Bool.or_false, Bool.false_or, if_false, if_true]
    rw [wire_Byte_is (by simp [be_len]; omega), Option.bind_some]
    dsimp only
    simp only [Option.bind_some, cond_true, cond_false]
    rw [v1 _ (by simp [be_len]; omega), Option.bind_some]
    dsimp only
    rw [v2 _ (by simp [be_len]; omega), Option.bind_some]
    dsimp only
    rw [wire_Two_is (by simp [be_len]; omega), Option.bind_some]
    dsimp only
    rw [wire_Two_is (by simp [be_len]; omega), Option.bind_some]
    simp only [List.append_assoc, List.append_nil]
  · simp only [decide_true, decide_false, Int.reduceEq, cond_true, cond_false, Bool.or_true, Bool.true_or, Bool.or_false, Bool.false_or, if_false, if_true]
    rw [wire_Byte_is (by simp [be_len]; omega), Option.bind_some]
    dsimp only
    simp only [Option.bind_some, cond_true, cond_false]
    rw [wire_Byte_is (by simp [be_len]; omega), Option.bind_some]
    dsimp only
    rw [v3 _ (by simp [be_len]; omega), Option.bind_some]
    simp only [List.append_assoc, List.nil_append]
  · simp only [decide_true, Int.reduceEq, cond_true, if_true]
    rw [wire_Byte_is (by simp [be_len]; omega), Option.bind_some]
    dsimp only
    rw [wire_Numbers_ok (by simp [be_len]; omega), Option.bind_some]
    simp only [List.append_assoc]

theorem num1 (n : Int) : ref07_Number n 1 = some ((be (nat64 n) 1, ()), ()) := ref07_Number_ok (m := 1) (by omega)
theorem num2 (n : Int) : ref07_Number n 2 = some ((be (nat64 n) 2, ()), ()) := ref07_Number_ok (m := 2) (by omega)

theorem ref25_vecs_ok {l : List V4} (hl : ∀ v ∈ l, okV v) (hn : l.length ≤ 8) : ref25_vecs l = some ((encVecs l, ()), ()) := by
  unfold ref25_vecs
  rw [num1, Option.bind_some, be1 (by omega) (by omega)]
  have key := loop_up (f := fun (z : ((List V4) × (List Int) × Int × Unit) × Unit) => ref25_vecs_s0 z.1.1 z.1.2.1 z.1.2.2.1) (fun i => ((l, (l.length : Int) :: encs (l.take i), (i : Int), ()), ())) l.length (r := (((l.length : Int) :: encs l, ()), ()))
    (fun i hi => by
      dsimp only
      unfold ref25_vecs_s0
      rw [dlt hi, cond_true, rd_getD' (0, 0, 0, ()) hi, Option.bind_some]
      have hm := hl _ (getD_mem (0, 0, 0, ()) hi)
      obtain ⟨k1, k2⟩ := okV_vw hm
      have he := take_lt hi
      generalize l.getD i (0, 0, 0, ()) = v at *
      have hv : ref07_Vec v = some ((enc v.1 (v.2.1.toNat * 18446744073709551616 + v.2.2.1.toNat), ()), ()) := by
        generalize v.2.1.toNat * 18446744073709551616 + v.2.2.1.toNat = x at k1 k2
        rw [k2]; exact ref07_Vec_ok k1
      rw [hv, Option.bind_some]
      dsimp only
      have e1 := encs_len (l.take i)
      have e2 := enc_len v.1 (v.2.1.toNat * 18446744073709551616 + v.2.2.1.toNat)
      have e3 : (l.take i).length ≤ 8 := by rw [List.length_take]; omega
      rw [roomI_ok (by rw [List.length_cons]; omega), Option.bind_some, he, wi64 (by omega)]
      rfl)
    (by
      dsimp only
      unfold ref25_vecs_s0
      rw [dge, cond_false, List.take_length]) 0 (Nat.zero_le _)
  refine Eq.trans key ?_
  unfold encVecs
  rw [if_pos (by omega)]

theorem bytes_ok {u : Up} (ho : okU u) (h : mayU u = true) : ref25_Bytes u = some ((bytesU u, ()), ()) := by
  obtain ⟨hk, h1, h2, h3, h4⟩ := mayU_len h
  have l1 := encVecs_len h1
  have l2 := encVecs_len h2
  have l3 := encVecs_len h3
  have v1 := ref25_vecs_ok ho.1.1 h1
  have v2 := ref25_vecs_ok ho.2.1.1 h2
  have v3 := ref25_vecs_ok ho.2.2.1.1 h3
  have eU : ((u.1, u.2.1, (u.2.2.1.1, u.2.2.1.2.1, u.2.2.1.2.2.1, u.2.2.1.2.2.2.1, (u.2.2.1.2.2.2.2.1.1, u.2.2.1.2.2.2.2.1.2.1, ()), ()), u.2.2.2.1, u.2.2.2.2.1, ()) : Up) = u := rfl
  have hloop : ∀ c : List Int, c.length ≤ 100 → loopR (fun (z : ((List Int) × Int × Unit) × (Up × Unit)) => ref25_Bytes_s0 z.1.1 z.1.2.1 z.2.1) ((c, 0, ()), u, ()) = some ((c ++ u.2.2.2.2.1.map IntKind.u8.wrap, ()), ()) := by
    intro c hc
    have key := loop_up (f := fun (z : ((List Int) × Int × Unit) × (Up × Unit)) => ref25_Bytes_s0 z.1.1 z.1.2.1 z.2.1) (fun i => ((c ++ (u.2.2.2.2.1.take i).map IntKind.u8.wrap, (i : Int), ()), u, ())) u.2.2.2.2.1.length (r := ((c ++ u.2.2.2.2.1.map IntKind.u8.wrap, ()), ()))
      (fun i hi => by
        dsimp only
        unfold ref25_Bytes_s0
        have he := map_take hi
        rw [dlt hi, cond_true, rd_getD' 0 hi, Option.bind_some, num1, Option.bind_some]
        dsimp only
        rw [be_one, roomI_ok (by simp; omega), Option.bind_some, he, eU, wi64 (by omega), List.append_assoc])
      (by
        dsimp only
        unfold ref25_Bytes_s0
        rw [dge, cond_false, List.take_length]) 0 (Nat.zero_le _)
    refine Eq.trans ?_ key
    simp only [List.take_zero, List.map_nil, List.append_nil]
    rfl
  unfold ref25_Bytes
  simp only [num1, num2, Option.bind_some, v1, v2, v3, eU]
  unfold bytesU
  rcases hk with hk | hk | hk | hk | hk
  · simp only [hk, decide_false, Int.reduceEq, cond_true, cond_false, Bool.not_false, Bool.not_true, decide_true, if_false]
    rw [roomI_ok (by simp [be_len]), Option.bind_some, roomI_ok (by simp [be_len]; omega), Option.bind_some, roomI_ok (by simp [be_len]; omega), Option.bind_some, roomI_ok (by simp [be_len]; omega), Option.bind_some, roomI_ok (by simp [be_len]; omega), Option.bind_some, roomI_ok (by simp [be_len]; omega), Option.bind_some, roomI_ok (by simp [be_len]; omega), Option.bind_some]
    simp only [List.append_assoc]
  · simp only [hk, decide_false, Int.reduceEq, cond_true, cond_false, Bool.not_false, Bool.not_true, decide_true, if_false]
    rw [roomI_ok (by simp [be_len]), Option.bind_some, roomI_ok (by simp [be_len]; omega), Option.bind_some, roomI_ok (by simp [be_len]; omega), Option.bind_some, roomI_ok (by simp [be_len]; omega), Option.bind_some, roomI_ok (by simp [be_len]; omega), Option.bind_some, roomI_ok (by simp [be_len]; omega), Option.bind_some, roomI_ok (by simp [be_len]; omega), Option.bind_some]
    simp only [List.append_assoc]
  · simp only [hk, decide_false, Int.reduceEq, cond_true, cond_false, Bool.not_false, Bool.not_true, decide_true, if_false, if_true]
    rw [roomI_ok (by simp [be_len]), Option.bind_some, roomI_ok (by simp [be_len]; omega), Option.bind_some, roomI_ok (by simp [be_len]; omega), Option.bind_some, roomI_ok (by simp [be_len]; omega), Option.bind_some, roomI_ok (by simp [be_len]; omega), Option.bind_some]
    simp only [List.append_assoc, List.append_nil]
  · simp only [hk, decide_false, Int.reduceEq, cond_true, cond_false, Bool.not_false, Bool.not_true, decide_true, if_false, if_true]
    rw [roomI_ok (by simp [be_len]), Option.bind_some, roomI_ok (by simp [be_len]), Option.bind_some, roomI_ok (by simp [be_len]; omega), Option.bind_some]
    simp only [List.append_assoc, List.nil_append]
  · simp only [hk, cond_true, decide_true, if_true]
    rw [roomI_ok (by simp [be_len]), Option.bind_some, roomI_ok (by simp [be_len]), Option.bind_some]
    have hl := hloop ((be (nat64 4) 1 ++ be (nat64 u.2.2.2.1) 1) ++ be (nat64 (u.2.2.2.2.1.length : Int)) 1) (by simp [be_len])
    have hk4 : ((4, u.2.1, (u.2.2.1.1, u.2.2.1.2.1, u.2.2.1.2.2.1, u.2.2.1.2.2.2.1, (u.2.2.1.2.2.2.2.1.1, u.2.2.1.2.2.2.2.1.2.1, ()), ()), u.2.2.2.1, u.2.2.2.2.1, ()) : Up) = u := by rw [← hk]
    refine Eq.trans hl ?_
    unfold encNums
    rw [if_pos (by omega), be1 (n := (u.2.2.2.2.1.length : Int)) (by omega) (by omega)]
    simp only [List.append_assoc, List.singleton_append]

end Go.L

namespace Go.L
open Go Go.Pv
set_option maxRecDepth 100000

def upZ : Up := (0, 0, ([], [], 0, 0, (0, [], ()), ()), 0, [], ())

def encU (l : List Up) : List Int := l.flatMap bytesU

theorem encU_len : ∀ {l : List Up}, l.all mayU = true → (encU l).length ≤ 500 * l.length
  | [], _ => by simp [encU]
  | u :: l, h => by
    rw [List.all_cons, Bool.and_eq_true] at h
    have h1 := bytesU_len h.1
    have h2 := encU_len h.2
    unfold encU at h2 ⊢
    rw [List.flatMap_cons, List.length_append, List.length_cons]
    omega

theorem encU_take {l : List Up} {i : Nat} (h : i < l.length) : encU (l.take (i + 1)) = encU (l.take i) ++ bytesU l[i] := by
  unfold encU
  rw [List.take_add_one, List.getElem?_eq_getElem h, List.flatMap_append]
  simp

theorem all_take {l : List Up} {n : Nat} (h : l.all mayU = true) : (l.take n).all mayU = true := by
  rw [List.all_eq_true] at h ⊢
  exact fun x hx => h x (List.mem_of_mem_take hx)

theorem contains_ups {l : List Up} (ho : ∀ u ∈ l, okU u) (hn : l.length ≤ 1000000) : slices_ContainsFunc_api_Update_api_Update_d99 l = some ((!l.all mayU, ()), ()) := by
  unfold slices_ContainsFunc_api_Update_api_Update_d99 slices_IndexFunc_api_Update_api_Update_d99
  obtain ⟨i, h1, h2⟩ := idx_any (p := fun v => !mayU v) (f := fun (z : ((List Up) × Int × Int × Unit) × Unit) => slices_IndexFunc_api_Update_api_Update_d99_s0 z.1.1 z.1.2.1 z.1.2.2.1) l
    (fun i h => by
      dsimp only
      unfold slices_IndexFunc_api_Update_api_Update_d99_s0 batch_Encode_1
      have hm := may_ok (ho l[i] (List.getElem_mem h))
      rw [dlt h, cond_true, rdI_get h, Option.bind_some]
      have hm2 : batch_May (l[i].1, l[i].2.1, (l[i].2.2.1.1, l[i].2.2.1.2.1, l[i].2.2.1.2.2.1, l[i].2.2.1.2.2.2.1, (l[i].2.2.1.2.2.2.2.1.1, l[i].2.2.1.2.2.2.2.1.2.1, ()), ()), l[i].2.2.2.1, l[i].2.2.2.2.1, ()) = _ := hm
      rw [hm2]
      simp only [Option.bind_some, wi64 (show i < 1000000000 by omega)])
    (by
      dsimp only
      unfold slices_IndexFunc_api_Update_api_Update_d99_s0
      rw [dge, cond_false])
  rw [h1, Option.bind_some, h2, ← all_any, Bool.not_not]

theorem encode_ok {l : List Up} (ho : ∀ u ∈ l, okU u) (hn : l.length ≤ 1000) :
    batch_Encode l = some (((if 64 < l.length then ([], 2, ()) else if l.all mayU = true then (be (nat64 (l.length : Int)) 1 ++ encU l, 0, ()) else ([], 1, ())) : List Int × Int × Unit), ()) := by
  unfold batch_Encode
  by_cases hl : 64 < l.length
  · rw [if_pos hl, decide_eq_true (by omega), cond_true]
  · rw [if_neg hl, decide_eq_false (by omega), cond_false, contains_ups ho (by omega), Option.bind_some]
    dsimp only
    cases ha : l.all mayU with
    | false => simp
    | true =>
      rw [if_pos rfl, Bool.not_true, cond_false, wire_Byte_is (by simp), Option.bind_some]
      dsimp only
      rw [List.nil_append]
      have key := loop_up (f := fun (z : ((List Int) × (List Up) × Int × Int × Unit) × Unit) => batch_Encode_s1 z.1.1 z.1.2.1 z.1.2.2.1 z.1.2.2.2.1) (fun i => ((be (nat64 (l.length : Int)) 1 ++ encU (l.take i), l, (l.length : Int), (i : Int), ()), ())) l.length (r := ((be (nat64 (l.length : Int)) 1 ++ encU l, 0, ()), ()))
        (fun i hi => by
          dsimp only
          unfold batch_Encode_s1
          have hmem := List.getElem_mem hi
          have hmay : mayU l[i] = true := List.all_eq_true.1 ha _ hmem
          have h1 := encU_len (l := l.take i) (all_take ha)
          have h2 : (l.take i).length ≤ 64 := by rw [List.length_take]; omega
          rw [dlt hi, cond_true, rdI_get hi, Option.bind_some, one_ok (by rw [List.length_append, be_len]; omega) (ho _ hmem) hmay, Option.bind_some, encU_take hi, wi64 (by omega), List.append_assoc])
        (by
          dsimp only
          unfold batch_Encode_s1
          rw [dge, cond_false, List.take_length]) 0 (Nat.zero_le _)
      refine Eq.trans ?_ key
      simp only [List.take_zero]
      rw [show encU [] = [] from rfl, List.append_nil]
      rfl

theorem encode_nil : batch_Encode_f85 [] = some (([0], 0, ()), ()) := by
  unfold batch_Encode_f85
  have h1 : slices_ContainsFunc_api_Update_api_Update_b0c [] = some ((false, ()), ()) := by
    unfold slices_ContainsFunc_api_Update_api_Update_b0c slices_IndexFunc_api_Update_api_Update_b0c
    rw [loopR_out (r := (((-1), ()), ())) rfl]
    rfl
  have h2 : wire_Byte [] (([] : List (Int × Int × (Unit × Unit × Int × Int × (Int × Unit × Unit) × Unit) × Int × Unit × Unit)).length : Int) = some (([0], ()), ()) := by
    rw [wire_Byte_is (by simp), be_one]
    rfl
  rw [h1, h2]
  simp only [Option.bind_some, cond_false]
  exact loopR_out rfl

end Go.L
