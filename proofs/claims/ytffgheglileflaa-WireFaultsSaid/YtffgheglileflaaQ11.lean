/- The functions of this seat, and the laws as plain Lean. -/
import Derived.Test.YtffgheglileflaaQ10

namespace Go.Proofs.Ytffgheglileflaa
open Go Go.Pv Go.Proofs Go.L
set_option maxRecDepth 100000

theorem digits2 {n : Nat} (hn : n < 9223372036854775808) : wire_digits (n : Int) = some ((text 10 n, ()), ()) ∧ law07_digits (n : Int) = some ((text 10 n, ()), ()) := by
  have hw : IntKind.u64.wrap (n : Int) = (n : Int) := wu64 (by omega)
  have hp : ((0, (n : Int), ()) : Int × Int × Unit) = wp n := by
    unfold wp
    rw [Nat.div_eq_of_lt (by omega), Nat.mod_eq_of_lt (by omega)]; rfl
  constructor
  · unfold wire_digits
    rw [decide_eq_false (show ¬ ((n : Int) < 0) by omega), cond_false, hw, hp, show (10 : Int) = ((10 : Nat) : Int) from rfl, word_Text_ok (by omega) (by omega) (by omega)]
    rfl
  · unfold law07_digits
    have := ref01_Of_ok (hi := 0) (lo := n) (by omega) (by omega)
    rw [decide_eq_false (show ¬ ((n : Int) < 0) by omega), cond_false, hw, show (0 : Int) = ((0 : Nat) : Int) from rfl, this, Option.bind_some]
    have e : wd 0 n = BitVec.ofNat 128 n := by
      unfold wd
      simp
    rw [e, show (10 : Int) = ((10 : Nat) : Int) from rfl, ref01_Text_ok (by omega) (by omega) (by omega)]
    rfl

theorem text_small {n : Nat} (hn : n < 10) : text 10 n = [((48 + n : Nat) : Int)] := by
  unfold text
  rw [D_eq (by omega)]
  rcases (by omega : n = 0 ∨ n = 1 ∨ n = 2 ∨ n = 3 ∨ n = 4 ∨ n = 5 ∨ n = 6 ∨ n = 7 ∨ n = 8 ∨ n = 9) with rfl | rfl | rfl | rfl | rfl | rfl | rfl | rfl | rfl | rfl <;> decide

theorem first_nil : wire_Reader_Byte_db0 (([], 0, (), ()), ()) 255 = some ((0, ()), rd [] 0 (some (3, 0, ())), ()) := by kernel_rfl

theorem first_cons {x : Int} {t : List Int} (hx : inR .u8 x = true) (ht : (x :: t).length ≤ 500) : wire_Reader_Byte_db0 ((x :: t, 0, (), ()), ()) 255 = some ((x, ()), rd (x :: t) 1 none, ()) := by
  have hx := u8_of hx
  unfold wire_Reader_Byte_db0 wire_Reader_number_395 wire_cursor_take_1ca
  have hL : ((x :: t).length : Int) = (t.length : Int) + 1 := by simp
  have hl : t.length ≤ 499 := by simpa using ht
  have e1 : IntKind.i64.wrap (((x :: t).length : Int) - 0) = (t.length : Int) + 1 := by rw [hL, wrap_i64 (by omega) (by omega)]; omega
  have e2 : subL (x :: t) (IntKind.i64.wrap (IntKind.i64.wrap (0 + 1) - 1)) (IntKind.i64.wrap (0 + 1)) = some [x] := by
    have : IntKind.i64.wrap (0 + 1) = 1 := by decide
    rw [this, show IntKind.i64.wrap (1 - 1) = 0 by decide]
    unfold subL
    rw [if_pos ⟨by omega, by omega, by omega⟩]
    rfl
  simp only [e1, decide_eq_false (show ¬ ((1 : Int) > (t.length : Int) + 1) by omega), cond_false, e2, Option.bind_some, Bool.not_true]
  have hb := or_byte (n := 0) (v := x.toNat) (by omega) (by omega)
  have hxx : ((x.toNat : Nat) : Int) = x := by omega
  rw [hxx] at hb
  have hb : bitsI .or .i64 (IntKind.i64.wrap (0 * 2 ^ 8)) (IntKind.i64.wrap x) = x := by
    refine Eq.trans hb ?_
    omega
  have s1 : loopR (fun (z : (Int × Int × Int × (List Int) × Int × Int × Unit) × ((((List Int) × Int × Unit × Unit) × Unit) × Unit)) => wire_Reader_number_395_s0 z.1.1 z.1.2.1 z.1.2.2.1 z.1.2.2.2.1 z.1.2.2.2.2.1 z.1.2.2.2.2.2.1 z.2.1) ((255, 0, 0, [x], (([x] : List Int).length : Int), 0, ()), ((x :: t, IntKind.i64.wrap (0 + 1), (), ()), ()), ()) = some ((x, ()), rd (x :: t) 1 none, ()) := by
    refine loopR_on (y := ((255, 0, x, [x], (([x] : List Int).length : Int), 1, ()), ((x :: t, 1, (), ()), ()), ())) ?_ (loopR_out ?_)
    · dsimp only
      unfold wire_Reader_number_395_s0
      have hr : rdI [x] 0 = some x := rfl
      rw [show decide ((0 : Int) < (([x] : List Int).length : Int)) = true from rfl, cond_true, hr, Option.bind_some, hb]
      rfl
    · dsimp only
      unfold wire_Reader_number_395_s0
      rw [show decide ((1 : Int) < (([x] : List Int).length : Int)) = false from rfl, cond_false, decide_eq_false (show ¬ x > 255 by omega), cond_false]
      rfl
  rw [s1]
  rfl

theorem byte_at {b : List Int} {a : Int} {f : Int × Int × Unit} {n : Int} : wire_Reader_Byte_e57 (rd b a (some f)) n = some ((0, ()), rd b a (some f), ()) := by
  rfl

theorem faults_ok {b : List Int} {n : Int} (hu : ∀ v ∈ b, inR .u8 v = true) : law07_WireFaults b n = some ((true, ()), ()) := by
  unfold law07_WireFaults
  by_cases hl : (b.length : Int) > 500
  · rw [decide_eq_true hl, cond_true, lives_ok]; rfl
  · rw [decide_eq_false hl, cond_false]
    have hrd : wire_Read b = some ((((b, 0, (), ()), ()), ()), ()) := by
      unfold wire_Read
      rw [bytes_Clone_ok (by omega)]; rfl
    have d0 := digits2 (n := 0) (by omega)
    have d1 := digits2 (n := 1) (by omega)
    have d3 := digits2 (n := 3) (by omega)
    have d5 := digits2 (n := 5) (by omega)
    rw [text_small (by omega)] at d0 d1 d3 d5
    have k1 : wire_Reader_Fail_d6c () 4 = some ((), ()) := rfl
    have k2 : wire_Reader_Bad_d35 () = some ((true, ()), ()) := rfl
    have k3 : wire_Reader_End_d35 () = some ((.inl (some (1, 0, ())), ()), ()) := rfl
    have k4 : ∀ e a : Int, wire_Why_8d8 (.inl (some (e, a, ()))) = some ((e, a, ()), ()) := fun _ _ => rfl
    have k5 : wire_Reader_Byte_d6c () 9 = some ((0, ()), ()) := rfl
    have k6 : wire_Reader_Two_d6c () 9 = some ((0, ()), ()) := rfl
    have k7 : wire_Reader_Four_d6c () 9 = some ((0, ()), ()) := rfl
    have k8 : wire_Reader_Vec_d35 () = some (((0, 0, 0, ()), ()), ()) := rfl
    have k9 : wire_Reader_Name_d35 () = some (([], ()), ()) := rfl
    have k10 : wire_Reader_Vecs_d6c () 9 = some (((), ()), ()) := rfl
    have k11 : wire_Reader_Numbers_639 () 9 9 = some (((), ()), ()) := rfl
    have k12 : wire_Reader_At_d35 () = some ((0, ()), ()) := rfl
    have k13 : wire_Reader_Left_d35 () = some ((0, ()), ()) := rfl
    have k14 : wire_Fault_Error_d35 () = some (([], ()), ()) := rfl
    have k15 : ∀ b a f, wire_Reader_At_59d (rd b a f) = some ((a, ()), rd b a f, ()) := fun _ _ _ => rfl
    have k16 : ∀ b a e p, wire_Reader_End_59d (rd b a (some (e, p, ()))) = some ((.inl (some (e, p, ())), ()), rd b a (some (e, p, ())), ()) := fun _ _ _ _ => rfl
    have k17 : ∀ f : Int × Int × Unit, wire_Only_8d8 (.inl (some f)) = some ((some f, ()), ()) := fun _ => rfl
    have w0 : IntKind.i64.wrap (0 + 0) = 0 := by decide
    have z0 : decide ((0 : Int) = 0) = true := rfl
    have z1 : decide ((1 : Int) = 1) = true := rfl
    have zn : decide (([] : List Int) = []) = true := rfl
    have g1 : ∀ f : Int × Int × Unit, getAlt0 (.inl (some f) : Option (Int × Int × Unit) ⊕ Unit) = some (some f) := fun _ => rfl
    cases b with
    | nil =>
      have e1 : wire_Reader_Fail_e57 (rd [] 0 (some (3, 0, ()))) 5 = some ((), rd [] 0 (some (3, 0, ())), ()) := rfl
      have e2 : wire_Fault_Error_bca (some (3, 0, ())) = some (([102, 97, 117, 108, 116, 32, 51, 32, 97, 116, 32, 98, 121, 116, 101, 32, 48], ()), ()) := by
        unfold wire_Fault_Error_bca
        have a3 := d3.1
        have a0 := d0.1
        have a3 : wire_digits 3 = _ := a3
        have a0 : wire_digits 0 = _ := a0
        simp only [Option.isNone_some, cond_false, Option.bind_some, a3, a0]
        rfl
      have a3 : law07_digits 3 = _ := d3.2
      have a0 : law07_digits 0 = _ := d0.2
      have c1 : catI [102, 97, 117, 108, 116, 32] [((48 + 3 : Nat) : Int)] = some [102, 97, 117, 108, 116, 32, 51] := rfl
      have c2 : catI [102, 97, 117, 108, 116, 32, 51] [32, 97, 116, 32, 98, 121, 116, 101, 32] = some [102, 97, 117, 108, 116, 32, 51, 32, 97, 116, 32, 98, 121, 116, 101, 32] := rfl
      have c3 : catI [102, 97, 117, 108, 116, 32, 51, 32, 97, 116, 32, 98, 121, 116, 101, 32] [((48 + 0 : Nat) : Int)] = some [102, 97, 117, 108, 116, 32, 51, 32, 97, 116, 32, 98, 121, 116, 101, 32, 48] := rfl
      have zl : decide ((([] : List Int).length : Int) = 0) = true := rfl
      simp only [k1, k2, k3, k4, k5, k6, k7, k8, k9, k10, k11, k12, k13, k14, k15, k16, k17, hrd, first_nil, e1, e2, Option.bind_some, z0, z1, zn, zl, gsome, gtrue, gfalse, Bool.not_true, Bool.not_false, cond_true, cond_false, Bool.and_self, w0, g1, Option.getD_some, Option.isSome_some, Option.isNone_some, a3, a0, c1, c2, c3, decide_true, lives_ok]
    | cons x t =>
      have f1 := first_cons (x := x) (t := t) (hu x (by simp)) (by omega)
      have e1 : wire_Reader_Fail_e57 (rd (x :: t) 1 none) 5 = some ((), rd (x :: t) 1 (some (5, 1, ())), ()) := rfl
      have e2 : wire_Fault_Error_bca (some (5, 1, ())) = some (([102, 97, 117, 108, 116, 32, 53, 32, 97, 116, 32, 98, 121, 116, 101, 32, 49], ()), ()) := by
        unfold wire_Fault_Error_bca
        have a3 : wire_digits 5 = _ := d5.1
        have a0 : wire_digits 1 = _ := d1.1
        simp only [Option.isNone_some, cond_false, Option.bind_some, a3, a0]
        rfl
      have a3 : law07_digits 5 = _ := d5.2
      have a0 : law07_digits 1 = _ := d1.2
      have c1 : catI [102, 97, 117, 108, 116, 32] [((48 + 5 : Nat) : Int)] = some [102, 97, 117, 108, 116, 32, 53] := rfl
      have c2 : catI [102, 97, 117, 108, 116, 32, 53] [32, 97, 116, 32, 98, 121, 116, 101, 32] = some [102, 97, 117, 108, 116, 32, 53, 32, 97, 116, 32, 98, 121, 116, 101, 32] := rfl
      have c3 : catI [102, 97, 117, 108, 116, 32, 53, 32, 97, 116, 32, 98, 121, 116, 101, 32] [((48 + 1 : Nat) : Int)] = some [102, 97, 117, 108, 116, 32, 53, 32, 97, 116, 32, 98, 121, 116, 101, 32, 49] := rfl
      have zl : decide (((x :: t).length : Int) = 0) = false := decide_eq_false (by simp; omega)
      simp only [k1, k2, k3, k4, k5, k6, k7, k8, k9, k10, k11, k12, k13, k14, k15, k16, k17, hrd, f1, e1, e2, byte_at, Option.bind_some, z0, z1, zn, zl, gsome, gtrue, gfalse, Bool.not_true, Bool.not_false, cond_true, cond_false, Bool.and_self, w0, g1, Option.getD_some, Option.isSome_some, Option.isNone_some, a3, a0, c1, c2, c3, decide_true, lives_ok]

end Go.Proofs.Ytffgheglileflaa
