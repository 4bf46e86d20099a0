/- The functions of this seat, and the laws as plain Lean. -/
import Derived.Test.YtblhcabnmjanjaaProg
import Derived.Test.YtblhcabnmjanjaaQ6

namespace Go.Proofs.Ytblhcabnmjanjaa
open Go Go.Pv Go.Proofs Go.L
set_option maxRecDepth 100000

noncomputable def bodyOf (f : Func) : Code := match f.body with | some c => c | none => .skip
noncomputable def cf (tab : List (Nat × CSem)) (nt nob : Nat) (ann : List (Nat × Shape)) : Cfg := ⟨Try.prog, fun f => lk f tab, nt, nob, fun n => lk n ann⟩
def Tab (tab : List (Nat × CSem)) : Prop := ∀ q ∈ tab, Contract Try.prog q.1 q.2
theorem Tab.nil : Tab [] := fun q h => by cases h
theorem Tab.cons {f : Nat} {sem : CSem} {l : List (Nat × CSem)} (h : Contract Try.prog f sem) (t : Tab l) : Tab ((f, sem) :: l) := fun q hq => by
  rcases List.mem_cons.1 hq with rfl | hq
  · exact h
  · exact t q hq

noncomputable def sm37 : CSem := add64Sem

noncomputable def sem37 : CSem := sm37

noncomputable def ag9 : List AK := [.val (.agg (.pair (.int .u64) (.pair (.int .u64) .unit))), .val (.agg (.pair (.int .u64) (.pair (.int .u64) .unit)))]
noncomputable def al9 : List Alt := [([.val (.agg (.pair (.int .u64) (.pair (.int .u64) .unit))), .val .bool], [])]
noncomputable def sm9 : CSem := mkSemA ag9 al9 fun x => word_Add x.1 x.2.1
noncomputable def cf9 : Cfg := cf [(37, sem37)] 32 0 []

noncomputable def sem9 : CSem := sm9

noncomputable def ag19 : List AK := [.val (.int .u64), .val (.int .u64)]
noncomputable def al19 : List Alt := [([.val (.agg (.arr 128 .bool))], [])]
noncomputable def sm19 : CSem := mkSemA ag19 al19 fun x => ref01_Of x.1 x.2.1
noncomputable def cf19 : Cfg := cf [] 27 0 [(0, ⟨[(0, .dat (.int .u64)), (1, .dat (.int .u64)), (4, .loc (nameOf 4 0) []), (5, .loc (nameOf 5 0) []), (6, .dat (.int .i64))], [((nameOf 4 0), (.agg (.arr 128 .bool))), ((nameOf 5 0), (.agg (.arr 128 .bool)))]⟩)]

noncomputable def sem19 : CSem := sm19

/-! ### shunter/shunterlaw01.of -/
noncomputable def law01_of (a_0 : Int × Int × Unit) : Option (((List Bool) × Unit) × (Unit)) :=
  (ref01_Of a_0.1 a_0.2.1).bind fun r_1 =>
  some ((r_1.1.1, ()), ())

noncomputable def ag11 : List AK := [.val (.agg (.pair (.int .u64) (.pair (.int .u64) .unit)))]
noncomputable def al11 : List Alt := [([.val (.agg (.arr 128 .bool))], [])]
noncomputable def sm11 : CSem := mkSemA ag11 al11 fun x => law01_of x.1
noncomputable def cf11 : Cfg := cf [(19, sem19)] 8 0 []

noncomputable def sem11 : CSem := sm11

noncomputable def ag10 : List AK := [.val (.agg (.arr 128 .bool)), .val (.agg (.arr 128 .bool)), .val .bool]
noncomputable def al10 : List Alt := [([.val (.agg (.arr 128 .bool)), .val .bool], [])]
noncomputable def sm10 : CSem := mkSemA ag10 al10 fun x => ref01_Sum x.1 x.2.1 x.2.2.1
noncomputable def cf10 : Cfg := cf [] 37 0 [(0, ⟨[(2, .dat .bool), (3, .loc (nameOf 3 0) []), (4, .loc (nameOf 4 0) []), (6, .loc (nameOf 6 0) []), (8, .loc (nameOf 8 0) []), (9, .dat (.int .i64))], [((nameOf 3 0), (.agg (.arr 128 .bool))), ((nameOf 4 0), (.agg (.arr 128 .bool))), ((nameOf 6 0), (.agg (.arr 128 .bool))), ((nameOf 8 0), (.agg (.arr 128 .bool)))]⟩)]

noncomputable def sem10 : CSem := sm10

noncomputable def sm38 : CSem := sub64Sem

noncomputable def sem38 : CSem := sm38

noncomputable def ag12 : List AK := [.val (.agg (.pair (.int .u64) (.pair (.int .u64) .unit))), .val (.agg (.pair (.int .u64) (.pair (.int .u64) .unit)))]
noncomputable def al12 : List Alt := [([.val (.agg (.pair (.int .u64) (.pair (.int .u64) .unit))), .val .bool], [])]
noncomputable def sm12 : CSem := mkSemA ag12 al12 fun x => word_Sub x.1 x.2.1
noncomputable def cf12 : Cfg := cf [(38, sem38)] 32 0 []

noncomputable def sem12 : CSem := sm12

noncomputable def ag39 : List AK := [.val (.agg (.arr 128 .bool))]
noncomputable def al39 : List Alt := [([.val (.agg (.arr 128 .bool))], [])]
noncomputable def sm39 : CSem := mkSemA ag39 al39 fun x => ref01_Turned x.1
noncomputable def cf39 : Cfg := cf [] 16 0 [(0, ⟨[(1, .loc (nameOf 1 0) []), (2, .loc (nameOf 2 0) []), (3, .loc (nameOf 3 0) []), (4, .dat (.int .i64))], [((nameOf 1 0), (.agg (.arr 128 .bool))), ((nameOf 2 0), (.agg (.arr 128 .bool))), ((nameOf 3 0), (.agg (.arr 128 .bool)))]⟩)]

noncomputable def sem39 : CSem := sm39

noncomputable def sg30 : Sig := ⟨[.val (.agg (.arr 128 .bool)), .val (.agg (.arr 128 .bool))], [.val .bool], []⟩
noncomputable def sm30 : CSem := mkSem sg30 fun x => ref01_Less x.1 x.2.1
noncomputable def cf30 : Cfg := cf [] 20 0 [(0, ⟨[(2, .loc (nameOf 2 0) []), (3, .loc (nameOf 3 0) []), (5, .dat (.int .i64))], [((nameOf 2 0), (.agg (.arr 128 .bool))), ((nameOf 3 0), (.agg (.arr 128 .bool)))]⟩)]

noncomputable def sem30 : CSem := sm30

noncomputable def ag13 : List AK := [.val (.agg (.arr 128 .bool)), .val (.agg (.arr 128 .bool))]
noncomputable def al13 : List Alt := [([.val (.agg (.arr 128 .bool)), .val .bool], [])]
noncomputable def sm13 : CSem := mkSemA ag13 al13 fun x => ref01_Minus x.1 x.2.1
noncomputable def cf13 : Cfg := cf [(39, sem39), (10, sem10), (30, sem30)] 19 0 []

noncomputable def sem13 : CSem := sm13

noncomputable def sg43 : Sig := ⟨[.val (.int .i64)], [.val .bool], []⟩
noncomputable def sm43 : CSem := mkSem sg43 fun x => word_based x.1
noncomputable def cf43 : Cfg := cf [] 9 0 []

noncomputable def sem43 : CSem := sm43

noncomputable def sg42 : Sig := ⟨[.val (.int .u64)], [.val (.int .i64)], []⟩
noncomputable def sm42 : CSem := mkSem sg42 fun x => bits_Len64 x.1
noncomputable def cf42 : Cfg := cf [] 25 0 []

noncomputable def sem42 : CSem := sm42

noncomputable def sg47 : Sig := ⟨[.val (.int .u64)], [.val (.int .i64)], []⟩
noncomputable def sm47 : CSem := mkSem sg47 fun x => bits_LeadingZeros64 x.1
noncomputable def cf47 : Cfg := cf [(42, sem42)] 6 0 []

noncomputable def sem47 : CSem := sm47

noncomputable def sg41 : Sig := ⟨[.val (.int .u64), .val (.int .u64), .val (.int .u64)], [.val (.int .u64), .val (.int .u64)], []⟩
noncomputable def sm41 : CSem := mkSem sg41 fun x => bits_Div64 x.1 x.2.1 x.2.2.1
noncomputable def cf41 : Cfg := cf [(47, sem47)] 135 0 [(2, ⟨[(2, .dat (.int .u64)), (8, .dat (.int .u64)), (9, .dat (.int .u64)), (10, .dat (.int .u64)), (14, .dat (.int .u64)), (15, .dat (.int .u64)), (16, .dat (.int .u64)), (17, .dat (.int .u64)), (18, .dat (.int .u64))], []⟩), (0, ⟨[(2, .dat (.int .u64)), (8, .dat (.int .u64)), (9, .dat (.int .u64)), (10, .dat (.int .u64)), (11, .dat (.int .u64)), (13, .dat (.int .u64)), (14, .dat (.int .u64)), (15, .dat (.int .u64)), (16, .dat (.int .u64))], []⟩)]

noncomputable def sem41 : CSem := sm41

noncomputable def ag17 : List AK := [.val (.agg (.pair (.int .u64) (.pair (.int .u64) .unit))), .val (.int .u64)]
noncomputable def al17 : List Alt := [([.val (.agg (.pair (.int .u64) (.pair (.int .u64) .unit))), .val (.int .u64), .val .bool], [])]
noncomputable def sm17 : CSem := mkSemA ag17 al17 fun x => word_Div x.1 x.2.1
noncomputable def cf17 : Cfg := cf [(41, sem41)] 33 0 []

noncomputable def sem17 : CSem := sm17

noncomputable def sg35 : Sig := ⟨[.val (.agg (.pair (.int .u64) (.pair (.int .u64) .unit))), .val (.int .i64)], [.val .str], []⟩
noncomputable def sm35 : CSem := mkSem sg35 fun x => word_Text x.1 x.2.1
noncomputable def cf35 : Cfg := cf [(43, sem43), (17, sem17)] 66 0 [(2, ⟨[(5, .own (.int .u8) false), (37, .dat (.int .i64)), (38, .dat (.int .i64))], []⟩), (0, ⟨[(1, .dat (.int .i64)), (2, .loc (nameOf 2 0) []), (5, .own (.int .u8) false)], [((nameOf 2 0), (.agg (.pair (.int .u64) (.pair (.int .u64) .unit))))]⟩)]

noncomputable def sem35 : CSem := sm35

/-! ### shunter/shunterlaw01.lives -/
noncomputable def law01_lives : Option ((Bool × Unit) × (Unit)) :=
  (word_Add (0, 18446744073709551615, ()) (0, 1, ())).bind fun r_1 =>
  let t11_2 : Bool := decide (r_1.1.1.1 = 1) && decide (r_1.1.1.2.1 = 0)
  guardR t11_2 (some ()) () fun _ =>
  guardR t11_2 (some ()) () fun _ =>
  let t15_3 : Bool := bif t11_2 then !r_1.1.2.1 else false
  guardR t15_3 (some r_1.1.1) (0, 0, ()) fun v_4 =>
  guardR t15_3 (word_Text v_4 16) (([], ()), ()) fun r_5 =>
  guardR t15_3 (some (decide (r_5.1.1 = [49, 48, 48, 48, 48, 48, 48, 48, 48, 48, 48, 48, 48, 48, 48, 48, 48]))) false fun v_6 =>
  some (((bif t15_3 then v_6 else false), ()), ())

noncomputable def sg14 : Sig := ⟨[], [.val .bool], []⟩
noncomputable def sm14 : CSem := mkSem sg14 fun x => law01_lives
noncomputable def cf14 : Cfg := cf [(9, sem9), (35, sem35)] 21 0 []

noncomputable def sem14 : CSem := sm14

/-! ### shunter/shunterlaw01.WordAdds -/
noncomputable def law01_WordAdds (a_0 : Int × Int × Unit) (b_1 : Int × Int × Unit) : Option ((Bool × Unit) × (Unit)) :=
  (word_Add (a_0.1, a_0.2.1, ()) (b_1.1, b_1.2.1, ())).bind fun r_1 =>
  (law01_of (a_0.1, a_0.2.1, ())).bind fun r_2 =>
  (law01_of (b_1.1, b_1.2.1, ())).bind fun r_3 =>
  (ref01_Sum r_2.1.1 r_3.1.1 false).bind fun r_4 =>
  (word_Sub (a_0.1, a_0.2.1, ()) (b_1.1, b_1.2.1, ())).bind fun r_5 =>
  (law01_of (a_0.1, a_0.2.1, ())).bind fun r_6 =>
  (law01_of (b_1.1, b_1.2.1, ())).bind fun r_7 =>
  (ref01_Minus r_6.1.1 r_7.1.1).bind fun r_8 =>
  (word_Sub r_1.1.1 (b_1.1, b_1.2.1, ())).bind fun r_9 =>
  (law01_of r_1.1.1).bind fun r_10 =>
  let t52_11 : Bool := eqLs (fun x y => decide (x = y)) r_10.1.1 r_4.1.1
  guardR t52_11 (some ()) () fun _ =>
  guardR t52_11 (some ()) () fun _ =>
  guardR t52_11 (some ()) () fun _ =>
  let t57_13 : Bool := bif t52_11 then (decide (r_1.1.2.1 = r_4.1.2.1)) else false
  guardR t57_13 (some r_5.1.1) (0, 0, ()) fun v_14 =>
  guardR t57_13 (law01_of v_14) ((List.replicate 128 false, ()), ()) fun r_15 =>
  guardR t57_13 (some r_8.1.1) (List.replicate 128 false) fun v_16 =>
  guardR t57_13 (some ()) () fun _ =>
  let t63_18 : Bool := bif t57_13 then (eqLs (fun x y => decide (x = y)) r_15.1.1 v_16) else false
  guardR t63_18 (some ()) () fun _ =>
  guardR t63_18 (some ()) () fun _ =>
  guardR t63_18 (some ()) () fun _ =>
  let t68_20 : Bool := bif t63_18 then (decide (r_5.1.2.1 = r_8.1.2.1)) else false
  guardR t68_20 (some r_9.1.1) (0, 0, ()) fun v_21 =>
  guardR t68_20 (some (a_0.1, a_0.2.1, ())) (0, 0, ()) fun v_22 =>
  guardR t68_20 (some ()) () fun _ =>
  let t73_24 : Bool := bif t68_20 then (decide (v_21.1 = v_22.1) && decide (v_21.2.1 = v_22.2.1)) else false
  guardR t73_24 (some ()) () fun _ =>
  guardR t73_24 (some ()) () fun _ =>
  guardR t73_24 (some ()) () fun _ =>
  let t78_26 : Bool := bif t73_24 then (decide (r_9.1.2.1 = r_1.1.2.1)) else false
  guardR t78_26 law01_lives ((false, ()), ()) fun r_27 =>
  some (((bif t78_26 then r_27.1.1 else false), ()), ())

noncomputable def sg3 : Sig := ⟨[.val (.agg (.pair (.int .u64) (.pair (.int .u64) .unit))), .val (.agg (.pair (.int .u64) (.pair (.int .u64) .unit)))], [.val .bool], []⟩
noncomputable def sm3 : CSem := mkSem sg3 fun x => law01_WordAdds x.1 x.2.1
noncomputable def cf3 : Cfg := cf [(9, sem9), (11, sem11), (10, sem10), (12, sem12), (13, sem13), (14, sem14)] 82 0 []

noncomputable def sem3 : CSem := sm3

noncomputable def sg40 : Sig := ⟨[.val (.int .u64), .val (.int .u64)], [.val (.int .u64), .val (.int .u64)], []⟩
noncomputable def sm40 : CSem := mkSem sg40 fun x => bits_Mul64 x.1 x.2.1
noncomputable def cf40 : Cfg := cf [] 51 0 []

noncomputable def sem40 : CSem := sm40

noncomputable def ag15 : List AK := [.val (.agg (.pair (.int .u64) (.pair (.int .u64) .unit))), .val (.agg (.pair (.int .u64) (.pair (.int .u64) .unit)))]
noncomputable def al15 : List Alt := [([.val (.agg (.pair (.int .u64) (.pair (.int .u64) .unit)))], [])]
noncomputable def sm15 : CSem := mkSemA ag15 al15 fun x => word_Mul x.1 x.2.1
noncomputable def cf15 : Cfg := cf [(40, sem40)] 30 0 []

noncomputable def sem15 : CSem := sm15

noncomputable def ag27 : List AK := [.val (.agg (.arr 128 .bool)), .val (.int .i64)]
noncomputable def al27 : List Alt := [([.val (.agg (.arr 128 .bool))], [])]
noncomputable def sm27 : CSem := mkSemA ag27 al27 fun x => ref01_Moved x.1 x.2.1
noncomputable def cf27 : Cfg := cf [] 37 0 [(0, ⟨[(1, .dat (.int .i64)), (2, .loc (nameOf 2 0) []), (4, .loc (nameOf 4 0) []), (5, .loc (nameOf 5 0) []), (6, .dat (.int .i64))], [((nameOf 2 0), (.agg (.arr 128 .bool))), ((nameOf 4 0), (.agg (.arr 128 .bool))), ((nameOf 5 0), (.agg (.arr 128 .bool)))]⟩)]

noncomputable def sem27 : CSem := sm27

noncomputable def ag16 : List AK := [.val (.agg (.arr 128 .bool)), .val (.agg (.arr 128 .bool))]
noncomputable def al16 : List Alt := [([.val (.agg (.arr 128 .bool))], [])]
noncomputable def sm16 : CSem := mkSemA ag16 al16 fun x => ref01_Product x.1 x.2.1
noncomputable def cf16 : Cfg := cf [(27, sem27), (10, sem10)] 23 0 [(0, ⟨[(2, .loc (nameOf 2 0) []), (3, .loc (nameOf 3 0) []), (4, .loc (nameOf 4 0) []), (5, .loc (nameOf 5 0) []), (6, .dat (.int .i64))], [((nameOf 2 0), (.agg (.arr 128 .bool))), ((nameOf 3 0), (.agg (.arr 128 .bool))), ((nameOf 4 0), (.agg (.arr 128 .bool))), ((nameOf 5 0), (.agg (.arr 128 .bool)))]⟩)]

noncomputable def sem16 : CSem := sm16

noncomputable def ag18 : List AK := [.val (.agg (.arr 128 .bool)), .val (.agg (.arr 128 .bool))]
noncomputable def al18 : List Alt := [([.val (.agg (.arr 128 .bool)), .val (.agg (.arr 128 .bool))], [])]
noncomputable def sm18 : CSem := mkSemA ag18 al18 fun x => ref01_Part x.1 x.2.1
noncomputable def cf18 : Cfg := cf [(27, sem27), (30, sem30), (13, sem13)] 39 0 [(0, ⟨[(2, .loc (nameOf 2 0) []), (3, .loc (nameOf 3 0) []), (4, .loc (nameOf 4 0) []), (5, .loc (nameOf 5 0) []), (6, .loc (nameOf 6 0) []), (7, .loc (nameOf 7 0) []), (8, .dat (.int .i64))], [((nameOf 2 0), (.agg (.arr 128 .bool))), ((nameOf 3 0), (.agg (.arr 128 .bool))), ((nameOf 4 0), (.agg (.arr 128 .bool))), ((nameOf 5 0), (.agg (.arr 128 .bool))), ((nameOf 6 0), (.agg (.arr 128 .bool))), ((nameOf 7 0), (.agg (.arr 128 .bool)))]⟩)]

noncomputable def sem18 : CSem := sm18

/-! ### shunter/shunterlaw01.WordTimes -/
noncomputable def law01_WordTimes (a_0 : Int × Int × Unit) (b_1 : Int × Int × Unit) (d_2 : Int) : Option ((Bool × Unit) × (Unit)) :=
  (word_Mul (a_0.1, a_0.2.1, ()) (b_1.1, b_1.2.1, ())).bind fun r_1 =>
  (law01_of r_1.1.1).bind fun r_2 =>
  (law01_of (a_0.1, a_0.2.1, ())).bind fun r_3 =>
  (law01_of (b_1.1, b_1.2.1, ())).bind fun r_4 =>
  (ref01_Product r_3.1.1 r_4.1.1).bind fun r_5 =>
  bif (!(eqLs (fun x y => decide (x = y)) r_2.1.1 r_5.1.1)) then
    some ((false, ()), ())
  else
  (word_Div (a_0.1, a_0.2.1, ()) d_2).bind fun r_7 =>
  bif (decide (d_2 = 0)) then
    let t37_9 : Bool := decide (r_7.1.1.1 = 0) && decide (r_7.1.1.2.1 = 0)
    guardR t37_9 (some ()) () fun _ =>
    guardR t37_9 (some (decide (r_7.1.2.1 = 0))) false fun v_10 =>
    let t41_11 : Bool := bif t37_9 then v_10 else false
    guardR t41_11 (some ()) () fun _ =>
    guardR t41_11 (some ()) () fun _ =>
    let t45_13 : Bool := bif t41_11 then (!r_7.1.2.2.1) else false
    guardR t45_13 law01_lives ((false, ()), ()) fun r_14 =>
    some (((bif t45_13 then r_14.1.1 else false), ()), ())
  else
  (law01_of (a_0.1, a_0.2.1, ())).bind fun r_16 =>
  (ref01_Of 0 d_2).bind fun r_17 =>
  (ref01_Part r_16.1.1 r_17.1.1).bind fun r_18 =>
  (word_Mul r_7.1.1 (0, d_2, ())).bind fun r_19 =>
  (word_Add r_19.1.1 (0, r_7.1.2.1, ())).bind fun r_20 =>
  guardR r_7.1.2.2.1 (some r_7.1.1) (0, 0, ()) fun v_21 =>
  guardR r_7.1.2.2.1 (law01_of v_21) ((List.replicate 128 false, ()), ()) fun r_22 =>
  guardR r_7.1.2.2.1 (some r_18.1.1) (List.replicate 128 false) fun v_23 =>
  guardR r_7.1.2.2.1 (some ()) () fun _ =>
  let t73_25 : Bool := bif r_7.1.2.2.1 then (eqLs (fun x y => decide (x = y)) r_22.1.1 v_23) else false
  guardR t73_25 (some ()) () fun _ =>
  guardR t73_25 (ref01_Of 0 r_7.1.2.1) ((List.replicate 128 false, ()), ()) fun r_26 =>
  guardR t73_25 (some r_18.1.2.1) (List.replicate 128 false) fun v_27 =>
  guardR t73_25 (some ()) () fun _ =>
  let t79_29 : Bool := bif t73_25 then (eqLs (fun x y => decide (x = y)) r_26.1.1 v_27) else false
  guardR t79_29 (some ()) () fun _ =>
  guardR t79_29 (some ()) () fun _ =>
  guardR t79_29 (some (decide (r_7.1.2.1 < d_2))) false fun v_30 =>
  let t84_31 : Bool := bif t79_29 then v_30 else false
  guardR t84_31 (some r_20.1.1) (0, 0, ()) fun v_32 =>
  guardR t84_31 (some (a_0.1, a_0.2.1, ())) (0, 0, ()) fun v_33 =>
  guardR t84_31 (some ()) () fun _ =>
  let t89_35 : Bool := bif t84_31 then (decide (v_32.1 = v_33.1) && decide (v_32.2.1 = v_33.2.1)) else false
  guardR t89_35 (some ()) () fun _ =>
  guardR t89_35 (some ()) () fun _ =>
  let t93_36 : Bool := bif t89_35 then !r_20.1.2.1 else false
  guardR t93_36 law01_lives ((false, ()), ()) fun r_37 =>
  some (((bif t93_36 then r_37.1.1 else false), ()), ())

noncomputable def sg4 : Sig := ⟨[.val (.agg (.pair (.int .u64) (.pair (.int .u64) .unit))), .val (.agg (.pair (.int .u64) (.pair (.int .u64) .unit))), .val (.int .u64)], [.val .bool], []⟩
noncomputable def sm4 : CSem := mkSem sg4 fun x => law01_WordTimes x.1 x.2.1 x.2.2.1
noncomputable def cf4 : Cfg := cf [(15, sem15), (11, sem11), (16, sem16), (17, sem17), (14, sem14), (19, sem19), (18, sem18), (9, sem9)] 97 0 []

noncomputable def sem4 : CSem := sm4

noncomputable def ag20 : List AK := [.val (.agg (.pair (.int .u64) (.pair (.int .u64) .unit))), .val (.agg (.pair (.int .u64) (.pair (.int .u64) .unit)))]
noncomputable def al20 : List Alt := [([.val (.agg (.pair (.int .u64) (.pair (.int .u64) .unit)))], [])]
noncomputable def sm20 : CSem := mkSemA ag20 al20 fun x => word_And x.1 x.2.1
noncomputable def cf20 : Cfg := cf [] 16 0 []

noncomputable def sem20 : CSem := sm20

noncomputable def ag21 : List AK := [.val (.agg (.pair (.int .u64) (.pair (.int .u64) .unit))), .val (.agg (.pair (.int .u64) (.pair (.int .u64) .unit)))]
noncomputable def al21 : List Alt := [([.val (.agg (.pair (.int .u64) (.pair (.int .u64) .unit)))], [])]
noncomputable def sm21 : CSem := mkSemA ag21 al21 fun x => word_Or x.1 x.2.1
noncomputable def cf21 : Cfg := cf [] 16 0 []

noncomputable def sem21 : CSem := sm21

noncomputable def ag22 : List AK := [.val (.agg (.pair (.int .u64) (.pair (.int .u64) .unit))), .val (.agg (.pair (.int .u64) (.pair (.int .u64) .unit)))]
noncomputable def al22 : List Alt := [([.val (.agg (.pair (.int .u64) (.pair (.int .u64) .unit)))], [])]
noncomputable def sm22 : CSem := mkSemA ag22 al22 fun x => word_Xor x.1 x.2.1
noncomputable def cf22 : Cfg := cf [] 16 0 []

noncomputable def sem22 : CSem := sm22

noncomputable def ag23 : List AK := [.val (.agg (.pair (.int .u64) (.pair (.int .u64) .unit)))]
noncomputable def al23 : List Alt := [([.val (.agg (.pair (.int .u64) (.pair (.int .u64) .unit)))], [])]
noncomputable def sm23 : CSem := mkSemA ag23 al23 fun x => word_Not x.1
noncomputable def cf23 : Cfg := cf [] 10 0 []

noncomputable def sem23 : CSem := sm23

noncomputable def ag26 : List AK := [.val (.agg (.pair (.int .u64) (.pair (.int .u64) .unit))), .val (.int .i64)]
noncomputable def al26 : List Alt := [([.val (.agg (.pair (.int .u64) (.pair (.int .u64) .unit)))], [])]
noncomputable def sm26 (word_Shl : (Int × Int × Unit) → Int → Option (((Int × Int × Unit) × Unit) × (Unit))) : CSem := mkSemA ag26 al26 fun x => word_Shl x.1 x.2.1
noncomputable def ag28 : List AK := [.val (.agg (.pair (.int .u64) (.pair (.int .u64) .unit))), .val (.int .i64)]
noncomputable def al28 : List Alt := [([.val (.agg (.pair (.int .u64) (.pair (.int .u64) .unit)))], [])]
noncomputable def sm28 (word_Shr : (Int × Int × Unit) → Int → Option (((Int × Int × Unit) × Unit) × (Unit))) : CSem := mkSemA ag28 al28 fun x => word_Shr x.1 x.2.1
noncomputable def cf26 (word_Shl : (Int × Int × Unit) → Int → Option (((Int × Int × Unit) × Unit) × (Unit))) (word_Shr : (Int × Int × Unit) → Int → Option (((Int × Int × Unit) × Unit) × (Unit))) : Cfg := cf [(28, sm28 word_Shr)] 48 0 []
noncomputable def cf28 (word_Shl : (Int × Int × Unit) → Int → Option (((Int × Int × Unit) × Unit) × (Unit))) (word_Shr : (Int × Int × Unit) → Int → Option (((Int × Int × Unit) × Unit) × (Unit))) : Cfg := cf [(26, sm26 word_Shl)] 48 0 []

noncomputable def sem28 : CSem := (sm28 word_Shr)

noncomputable def sem26 : CSem := (sm26 word_Shl)

noncomputable def ag24 : List AK := [.val (.int .i64)]
noncomputable def al24 : List Alt := [([.val (.agg (.pair (.int .u64) (.pair (.int .u64) .unit)))], [])]
noncomputable def sm24 : CSem := mkSemA ag24 al24 fun x => word_Ones x.1
noncomputable def cf24 : Cfg := cf [(23, sem23), (26, sem26), (12, sem12)] 23 0 []

noncomputable def sem24 : CSem := sm24

noncomputable def sg25 : Sig := ⟨[.val (.agg (.pair (.int .u64) (.pair (.int .u64) .unit))), .val (.int .i64)], [.val .bool], []⟩
noncomputable def sm25 : CSem := mkSem sg25 fun x => word_Bit x.1 x.2.1
noncomputable def cf25 : Cfg := cf [(28, sem28)] 19 0 []

noncomputable def sem25 : CSem := sm25

/-! ### shunter/shunterlaw01.WordBits -/
noncomputable def law01_WordBits_s0 (n_2_0 : Int) (i_14_0 : Int) (p10_0_0 : List Bool) (p11_0_0 : List Bool) (p12_0_0 : List Bool) (p13_0_0 : List Bool) (p3_0_0 : Int × Int × Unit) (p7_0_0 : List Bool) (p8_0_0 : List Bool) (p9_0_0 : List Bool) : Option (((Int × Int × Unit) × ((List Bool) × (List Bool) × (List Bool) × (List Bool) × (Int × Int × Unit) × (List Bool) × (List Bool) × (List Bool) × Unit)) ⊕ ((Bool × Unit) × (Unit))) :=
  bif (decide (i_14_0 < 128)) then
    (Option.map (fun _ => i_14_0) (ckI i_14_0 128)).bind fun v_14 =>
    (rdI p9_0_0 v_14).bind fun v_15 =>
    (Option.map (fun _ => i_14_0) (ckI i_14_0 128)).bind fun v_16 =>
    (rdI p7_0_0 v_16).bind fun v_17 =>
    guardR v_17 (some ()) () fun _ =>
    guardR v_17 (Option.map (fun _ => i_14_0) (ckI i_14_0 128)) 0 fun v_18 =>
    guardR v_17 (rdI p8_0_0 v_18) false fun v_19 =>
    let t53_21 : Bool := !(decide (v_15 = (bif v_17 then v_19 else false)))
    guardR (!t53_21) (some ()) () fun _ =>
    guardR (!t53_21) (Option.map (fun _ => i_14_0) (ckI i_14_0 128)) 0 fun v_22 =>
    guardR (!t53_21) (rdI p10_0_0 v_22) false fun v_23 =>
    guardR (!t53_21) (some ()) () fun _ =>
    guardR (!t53_21) (Option.map (fun _ => i_14_0) (ckI i_14_0 128)) 0 fun v_24 =>
    guardR (!t53_21) (rdI p7_0_0 v_24) false fun v_25 =>
    guardR (!t53_21) (some ()) () fun _ =>
    guardR ((!t53_21) && (!v_25)) (some ()) () fun _ =>
    guardR ((!t53_21) && (!v_25)) (Option.map (fun _ => i_14_0) (ckI i_14_0 128)) 0 fun v_26 =>
    guardR ((!t53_21) && (!v_25)) (rdI p8_0_0 v_26) false fun v_27 =>
    guardR (!t53_21) (some ()) () fun _ =>
    guardR (!t53_21) (some ()) () fun _ =>
    let t67_30 : Bool := bif t53_21 then true else (!(decide (v_23 = (bif v_25 then true else v_27))))
    guardR (!t67_30) (some ()) () fun _ =>
    guardR (!t67_30) (Option.map (fun _ => i_14_0) (ckI i_14_0 128)) 0 fun v_31 =>
    guardR (!t67_30) (rdI p11_0_0 v_31) false fun v_32 =>
    guardR (!t67_30) (some ()) () fun _ =>
    guardR (!t67_30) (Option.map (fun _ => i_14_0) (ckI i_14_0 128)) 0 fun v_33 =>
    guardR (!t67_30) (rdI p7_0_0 v_33) false fun v_34 =>
    guardR (!t67_30) (some ()) () fun _ =>
    guardR (!t67_30) (Option.map (fun _ => i_14_0) (ckI i_14_0 128)) 0 fun v_35 =>
    guardR (!t67_30) (rdI p8_0_0 v_35) false fun v_36 =>
    guardR (!t67_30) (some ()) () fun _ =>
    guardR (!t67_30) (some ()) () fun _ =>
    let t80_39 : Bool := bif t67_30 then true else (!(decide (v_32 = (!(decide (v_34 = v_36))))))
    guardR (!t80_39) (some ()) () fun _ =>
    guardR (!t80_39) (Option.map (fun _ => i_14_0) (ckI i_14_0 128)) 0 fun v_40 =>
    guardR (!t80_39) (rdI p12_0_0 v_40) false fun v_41 =>
    guardR (!t80_39) (some ()) () fun _ =>
    guardR (!t80_39) (Option.map (fun _ => i_14_0) (ckI i_14_0 128)) 0 fun v_42 =>
    guardR (!t80_39) (rdI p7_0_0 v_42) false fun v_43 =>
    guardR (!t80_39) (some ()) () fun _ =>
    let t89_45 : Bool := bif t80_39 then true else (decide (v_41 = v_43))
    guardR (!t89_45) (some ()) () fun _ =>
    guardR (!t89_45) (Option.map (fun _ => i_14_0) (ckI i_14_0 128)) 0 fun v_46 =>
    guardR (!t89_45) (rdI p13_0_0 v_46) false fun v_47 =>
    guardR (!t89_45) (some ()) () fun _ =>
    guardR (!t89_45) (some ()) () fun _ =>
    guardR (!t89_45) (some (decide (i_14_0 < n_2_0))) false fun v_48 =>
    guardR (!t89_45) (some ()) () fun _ =>
    let t98_50 : Bool := bif t89_45 then true else (!(decide (v_47 = v_48)))
    guardR (!t98_50) (some (p3_0_0.1, p3_0_0.2.1, ())) (0, 0, ()) fun v_51 =>
    guardR (!t98_50) (some ()) () fun _ =>
    guardR (!t98_50) (word_Bit v_51 i_14_0) ((false, ()), ()) fun r_52 =>
    guardR (!t98_50) (some ()) () fun _ =>
    guardR (!t98_50) (Option.map (fun _ => i_14_0) (ckI i_14_0 128)) 0 fun v_53 =>
    guardR (!t98_50) (rdI p7_0_0 v_53) false fun v_54 =>
    guardR (!t98_50) (some ()) () fun _ =>
    bif (bif t98_50 then true else (!(decide (r_52.1.1 = v_54)))) then
      some (.inr ((false, ()), ()))
    else
    some (.inl ((n_2_0, (IntKind.i64.wrap (i_14_0 + 1)), ()), p10_0_0, p11_0_0, p12_0_0, p13_0_0, (p3_0_0.1, p3_0_0.2.1, ()), p7_0_0, p8_0_0, p9_0_0, ()))
  else
  let t109_58 : Bool := decide (n_2_0 > (-128))
  (guardR t109_58 (some ()) () fun _ =>
  guardR t109_58 (some (decide (n_2_0 < 128))) false fun v_59 =>
  bif (bif t109_58 then v_59 else false) then
    (word_Bit (p3_0_0.1, p3_0_0.2.1, ()) n_2_0).bind fun r_62 =>
    let t120_63 : Bool := decide (n_2_0 ≥ 0)
    guardR t120_63 (some ()) () fun _ =>
    guardR t120_63 (some (decide (n_2_0 < 128))) false fun v_64 =>
    let t124_65 : Bool := bif t120_63 then v_64 else false
    guardR t124_65 (some ()) () fun _ =>
    guardR t124_65 (some (maxI n_2_0 0)) 0 fun v_66 =>
    guardR t124_65 (some (minI v_66 127)) 0 fun v_67 =>
    guardR t124_65 (Option.map (fun _ => v_67) (ckI v_67 128)) 0 fun v_68 =>
    guardR t124_65 (rdI p7_0_0 v_68) false fun v_69 =>
    bif (!(decide (r_62.1.1 = (bif t124_65 then v_69 else false)))) then
      some ((false, ()), ())
    else
    (word_Shl (p3_0_0.1, p3_0_0.2.1, ()) n_2_0).bind fun r_72 =>
    (law01_of r_72.1.1).bind fun r_73 =>
    (ref01_Moved p7_0_0 n_2_0).bind fun r_74 =>
    let t140_75 : Bool := eqLs (fun x y => decide (x = y)) r_73.1.1 r_74.1.1
    guardR t140_75 (some (p3_0_0.1, p3_0_0.2.1, ())) (0, 0, ()) fun v_76 =>
    guardR t140_75 (some ()) () fun _ =>
    guardR t140_75 (word_Shr v_76 n_2_0) (((0, 0, ()), ()), ()) fun r_77 =>
    guardR t140_75 (law01_of r_77.1.1) ((List.replicate 128 false, ()), ()) fun r_78 =>
    guardR t140_75 (some p7_0_0) (List.replicate 128 false) fun v_79 =>
    guardR t140_75 (some ()) () fun _ =>
    guardR t140_75 (ref01_Moved v_79 (IntKind.i64.wrap (0 - n_2_0))) ((List.replicate 128 false, ()), ()) fun r_80 =>
    guardR t140_75 (some ()) () fun _ =>
    let t150_82 : Bool := bif t140_75 then (eqLs (fun x y => decide (x = y)) r_78.1.1 r_80.1.1) else false
    guardR t150_82 law01_lives ((false, ()), ()) fun r_83 =>
    some (((bif t150_82 then r_83.1.1 else false), ()), ())
  else
  (word_Bit (p3_0_0.1, p3_0_0.2.1, ()) n_2_0).bind fun r_85 =>
  let t120_86 : Bool := decide (n_2_0 ≥ 0)
  guardR t120_86 (some ()) () fun _ =>
  guardR t120_86 (some (decide (n_2_0 < 128))) false fun v_87 =>
  let t124_88 : Bool := bif t120_86 then v_87 else false
  guardR t124_88 (some ()) () fun _ =>
  guardR t124_88 (some (maxI n_2_0 0)) 0 fun v_89 =>
  guardR t124_88 (some (minI v_89 127)) 0 fun v_90 =>
  guardR t124_88 (Option.map (fun _ => v_90) (ckI v_90 128)) 0 fun v_91 =>
  guardR t124_88 (rdI p7_0_0 v_91) false fun v_92 =>
  bif (!(decide (r_85.1.1 = (bif t124_88 then v_92 else false)))) then
    some ((false, ()), ())
  else
  (word_Shl (p3_0_0.1, p3_0_0.2.1, ()) n_2_0).bind fun r_95 =>
  (law01_of r_95.1.1).bind fun r_96 =>
  (ref01_Moved p7_0_0 n_2_0).bind fun r_97 =>
  let t140_98 : Bool := eqLs (fun x y => decide (x = y)) r_96.1.1 r_97.1.1
  guardR t140_98 (some (p3_0_0.1, p3_0_0.2.1, ())) (0, 0, ()) fun v_99 =>
  guardR t140_98 (some ()) () fun _ =>
  guardR t140_98 (word_Shr v_99 n_2_0) (((0, 0, ()), ()), ()) fun r_100 =>
  guardR t140_98 (law01_of r_100.1.1) ((List.replicate 128 false, ()), ()) fun r_101 =>
  guardR t140_98 (some p7_0_0) (List.replicate 128 false) fun v_102 =>
  guardR t140_98 (some ()) () fun _ =>
  guardR t140_98 (ref01_Moved v_102 128) ((List.replicate 128 false, ()), ()) fun r_103 =>
  guardR t140_98 (some ()) () fun _ =>
  let t150_105 : Bool := bif t140_98 then (eqLs (fun x y => decide (x = y)) r_101.1.1 r_103.1.1) else false
  guardR t150_105 law01_lives ((false, ()), ()) fun r_106 =>
  some (((bif t150_105 then r_106.1.1 else false), ()), ())).map .inr
noncomputable def law01_WordBits (a_0 : Int × Int × Unit) (b_1 : Int × Int × Unit) (n_2 : Int) : Option ((Bool × Unit) × (Unit)) :=
  (law01_of (a_0.1, a_0.2.1, ())).bind fun r_1 =>
  (law01_of (b_1.1, b_1.2.1, ())).bind fun r_2 =>
  (word_And (a_0.1, a_0.2.1, ()) (b_1.1, b_1.2.1, ())).bind fun r_3 =>
  (law01_of r_3.1.1).bind fun r_4 =>
  (word_Or (a_0.1, a_0.2.1, ()) (b_1.1, b_1.2.1, ())).bind fun r_5 =>
  (law01_of r_5.1.1).bind fun r_6 =>
  (word_Xor (a_0.1, a_0.2.1, ()) (b_1.1, b_1.2.1, ())).bind fun r_7 =>
  (law01_of r_7.1.1).bind fun r_8 =>
  (word_Not (a_0.1, a_0.2.1, ())).bind fun r_9 =>
  (law01_of r_9.1.1).bind fun r_10 =>
  (word_Ones n_2).bind fun r_11 =>
  (law01_of r_11.1.1).bind fun r_12 =>
  loopR (fun (z : (Int × Int × Unit) × ((List Bool) × (List Bool) × (List Bool) × (List Bool) × (Int × Int × Unit) × (List Bool) × (List Bool) × (List Bool) × Unit)) => law01_WordBits_s0 z.1.1 z.1.2.1 z.2.1 z.2.2.1 z.2.2.2.1 z.2.2.2.2.1 z.2.2.2.2.2.1 z.2.2.2.2.2.2.1 z.2.2.2.2.2.2.2.1 z.2.2.2.2.2.2.2.2.1) ((n_2, 0, ()), r_6.1.1, r_8.1.1, r_10.1.1, r_12.1.1, (a_0.1, a_0.2.1, ()), r_1.1.1, r_2.1.1, r_4.1.1, ())

noncomputable def sg5 : Sig := ⟨[.val (.agg (.pair (.int .u64) (.pair (.int .u64) .unit))), .val (.agg (.pair (.int .u64) (.pair (.int .u64) .unit))), .val (.int .i64)], [.val .bool], []⟩
noncomputable def sm5 : CSem := mkSem sg5 fun x => law01_WordBits x.1 x.2.1 x.2.2.1
noncomputable def cf5 : Cfg := cf [(11, sem11), (20, sem20), (21, sem21), (22, sem22), (23, sem23), (24, sem24), (25, sem25), (26, sem26), (27, sem27), (28, sem28), (14, sem14)] 154 0 [(0, ⟨[(2, .dat (.int .i64)), (3, .loc (nameOf 3 0) []), (7, .loc (nameOf 7 0) []), (8, .loc (nameOf 8 0) []), (9, .loc (nameOf 9 0) []), (10, .loc (nameOf 10 0) []), (11, .loc (nameOf 11 0) []), (12, .loc (nameOf 12 0) []), (13, .loc (nameOf 13 0) []), (14, .dat (.int .i64))], [((nameOf 10 0), (.agg (.arr 128 .bool))), ((nameOf 11 0), (.agg (.arr 128 .bool))), ((nameOf 12 0), (.agg (.arr 128 .bool))), ((nameOf 13 0), (.agg (.arr 128 .bool))), ((nameOf 3 0), (.agg (.pair (.int .u64) (.pair (.int .u64) .unit)))), ((nameOf 7 0), (.agg (.arr 128 .bool))), ((nameOf 8 0), (.agg (.arr 128 .bool))), ((nameOf 9 0), (.agg (.arr 128 .bool)))]⟩)]

noncomputable def sem5 : CSem := sm5

noncomputable def sg29 : Sig := ⟨[.val (.agg (.pair (.int .u64) (.pair (.int .u64) .unit))), .val (.agg (.pair (.int .u64) (.pair (.int .u64) .unit)))], [.val (.int .i64)], []⟩
noncomputable def sm29 : CSem := mkSem sg29 fun x => word_Cmp x.1 x.2.1
noncomputable def cf29 : Cfg := cf [(12, sem12)] 19 0 []

noncomputable def sem29 : CSem := sm29

noncomputable def sg31 : Sig := ⟨[.val (.agg (.pair (.int .u64) (.pair (.int .u64) .unit)))], [.val (.int .i64)], []⟩
noncomputable def sm31 : CSem := mkSem sg31 fun x => word_Len x.1
noncomputable def cf31 : Cfg := cf [(42, sem42)] 13 0 []

noncomputable def sem31 : CSem := sm31

noncomputable def sg32 : Sig := ⟨[.val (.agg (.arr 128 .bool))], [.val (.int .i64)], []⟩
noncomputable def sm32 : CSem := mkSem sg32 fun x => ref01_Len x.1
noncomputable def cf32 : Cfg := cf [] 13 0 [(0, ⟨[(1, .loc (nameOf 1 0) []), (3, .dat (.int .i64))], [((nameOf 1 0), (.agg (.arr 128 .bool)))]⟩)]

noncomputable def sem32 : CSem := sm32

/-! ### shunter/shunterlaw01.WordOrders -/
noncomputable def law01_WordOrders (a_0 : Int × Int × Unit) (b_1 : Int × Int × Unit) : Option ((Bool × Unit) × (Unit)) :=
  (word_Cmp (a_0.1, a_0.2.1, ()) (b_1.1, b_1.2.1, ())).bind fun r_1 =>
  let t11_2 : Bool := decide (r_1.1.1 < (-1))
  guardR (!t11_2) (some ()) () fun _ =>
  guardR (!t11_2) (some (decide (r_1.1.1 > 1))) false fun v_3 =>
  let t15_4 : Bool := bif t11_2 then true else v_3
  guardR (!t15_4) (some (b_1.1, b_1.2.1, ())) (0, 0, ()) fun v_5 =>
  guardR (!t15_4) (some (a_0.1, a_0.2.1, ())) (0, 0, ()) fun v_6 =>
  guardR (!t15_4) (word_Cmp v_5 v_6) ((0, ()), ()) fun r_7 =>
  guardR (!t15_4) (some ()) () fun _ =>
  guardR (!t15_4) (some ()) () fun _ =>
  guardR (!t15_4) (some (!decide (r_7.1.1 = (IntKind.i64.wrap (0 - r_1.1.1))))) false fun v_9 =>
  let t23_10 : Bool := bif t15_4 then true else v_9
  guardR (!t23_10) (some ()) () fun _ =>
  guardR (!t23_10) (some (decide (r_1.1.1 = 0))) false fun v_11 =>
  guardR (!t23_10) (some (a_0.1, a_0.2.1, ())) (0, 0, ()) fun v_12 =>
  guardR (!t23_10) (some (b_1.1, b_1.2.1, ())) (0, 0, ()) fun v_13 =>
  guardR (!t23_10) (some ()) () fun _ =>
  guardR (!t23_10) (some ()) () fun _ =>
  let t31_16 : Bool := bif t23_10 then true else (!(decide (v_11 = (decide (v_12.1 = v_13.1) && decide (v_12.2.1 = v_13.2.1)))))
  guardR (!t31_16) (some ()) () fun _ =>
  guardR (!t31_16) (some (decide (r_1.1.1 < 0))) false fun v_17 =>
  guardR (!t31_16) (some (a_0.1, a_0.2.1, ())) (0, 0, ()) fun v_18 =>
  guardR (!t31_16) (law01_of v_18) ((List.replicate 128 false, ()), ()) fun r_19 =>
  guardR (!t31_16) (some (b_1.1, b_1.2.1, ())) (0, 0, ()) fun v_20 =>
  guardR (!t31_16) (law01_of v_20) ((List.replicate 128 false, ()), ()) fun r_21 =>
  guardR (!t31_16) (ref01_Less r_19.1.1 r_21.1.1) ((false, ()), ()) fun r_22 =>
  guardR (!t31_16) (some ()) () fun _ =>
  bif (bif t31_16 then true else (!(decide (v_17 = r_22.1.1)))) then
    some ((false, ()), ())
  else
  (word_Len (a_0.1, a_0.2.1, ())).bind fun r_25 =>
  let t45_26 : Bool := decide (r_25.1.1 < 0)
  guardR (!t45_26) (some ()) () fun _ =>
  guardR (!t45_26) (some (decide (r_25.1.1 > 128))) false fun v_27 =>
  let t49_28 : Bool := bif t45_26 then true else v_27
  guardR (!t49_28) (some ()) () fun _ =>
  guardR (!t49_28) (some (a_0.1, a_0.2.1, ())) (0, 0, ()) fun v_29 =>
  guardR (!t49_28) (law01_of v_29) ((List.replicate 128 false, ()), ()) fun r_30 =>
  guardR (!t49_28) (ref01_Len r_30.1.1) ((0, ()), ()) fun r_31 =>
  guardR (!t49_28) (some (!decide (r_25.1.1 = r_31.1.1))) false fun v_32 =>
  bif (bif t49_28 then true else v_32) then
    some ((false, ()), ())
  else
  (word_Ones r_25.1.1).bind fun r_34 =>
  (word_Cmp (a_0.1, a_0.2.1, ()) r_34.1.1).bind fun r_35 =>
  let t61_36 : Bool := decide (r_35.1.1 ≤ 0)
  guardR t61_36 (some ()) () fun _ =>
  guardR t61_36 (some (decide (r_25.1.1 = 0))) false fun v_37 =>
  guardR t61_36 (some ()) () fun _ =>
  guardR (t61_36 && (!v_37)) (some (a_0.1, a_0.2.1, ())) (0, 0, ()) fun v_38 =>
  guardR (t61_36 && (!v_37)) (some ()) () fun _ =>
  guardR (t61_36 && (!v_37)) (some (IntKind.i64.wrap (r_25.1.1 - 1))) 0 fun v_39 =>
  guardR (t61_36 && (!v_37)) (word_Ones v_39) (((0, 0, ()), ()), ()) fun r_40 =>
  guardR (t61_36 && (!v_37)) (word_Cmp v_38 r_40.1.1) ((0, ()), ()) fun r_41 =>
  guardR (t61_36 && (!v_37)) (some (decide (r_41.1.1 > 0))) false fun v_42 =>
  guardR t61_36 (some ()) () fun _ =>
  let t73_44 : Bool := bif t61_36 then (bif v_37 then true else v_42) else false
  guardR t73_44 law01_lives ((false, ()), ()) fun r_45 =>
  some (((bif t73_44 then r_45.1.1 else false), ()), ())

noncomputable def sg6 : Sig := ⟨[.val (.agg (.pair (.int .u64) (.pair (.int .u64) .unit))), .val (.agg (.pair (.int .u64) (.pair (.int .u64) .unit)))], [.val .bool], []⟩
noncomputable def sm6 : CSem := mkSem sg6 fun x => law01_WordOrders x.1 x.2.1
noncomputable def cf6 : Cfg := cf [(29, sem29), (11, sem11), (30, sem30), (31, sem31), (32, sem32), (24, sem24), (14, sem14)] 77 0 []

noncomputable def sem6 : CSem := sm6

noncomputable def sg44 : Sig := ⟨[.val (.int .u8)], [.val (.int .i64)], []⟩
noncomputable def sm44 : CSem := mkSem sg44 fun x => word_digit x.1
noncomputable def cf44 : Cfg := cf [] 35 0 []

noncomputable def sem44 : CSem := sm44

noncomputable def ag33 : List AK := [.val .str, .val (.int .i64)]
noncomputable def al33 : List Alt := [([.val (.agg (.pair (.int .u64) (.pair (.int .u64) .unit))), .val (.int .i64)], [])]
noncomputable def sm33 : CSem := mkSemA ag33 al33 fun x => word_Parse x.1 x.2.1
noncomputable def cf33 : Cfg := cf [(43, sem43), (44, sem44), (23, sem23), (17, sem17), (29, sem29), (15, sem15), (9, sem9)] 74 0 [(1, ⟨[(0, .dat .str), (1, .dat (.int .i64)), (4, .loc (nameOf 4 0) []), (6, .loc (nameOf 6 0) []), (7, .dat .bool), (25, .dat (.int .i64)), (26, .dat (.int .i64))], [((nameOf 4 0), (.agg (.pair (.int .u64) (.pair (.int .u64) .unit)))), ((nameOf 6 0), (.agg (.pair (.int .u64) (.pair (.int .u64) .unit))))]⟩)]

noncomputable def sem33 : CSem := sm33

noncomputable def ag45 : List AK := [.val (.int .i64)]
noncomputable def al45 : List Alt := [([.val (.agg (.arr 128 .bool))], [])]
noncomputable def sm45 : CSem := mkSemA ag45 al45 fun x => ref01_small x.1
noncomputable def cf45 : Cfg := cf [(19, sem19)] 6 0 []

noncomputable def sem45 : CSem := sm45

noncomputable def ag34 : List AK := [.val .str, .val (.int .i64)]
noncomputable def al34 : List Alt := [([.val (.agg (.arr 128 .bool)), .val (.int .i64)], [])]
noncomputable def sm34 : CSem := mkSemA ag34 al34 fun x => ref01_Parse x.1 x.2.1
noncomputable def cf34 : Cfg := cf [(39, sem39), (45, sem45), (18, sem18), (30, sem30), (16, sem16), (10, sem10)] 85 0 [(2, ⟨[(0, .dat .str), (1, .dat (.int .i64)), (4, .loc (nameOf 4 0) []), (6, .loc (nameOf 6 0) []), (7, .dat .bool), (8, .dat (.int .i64)), (9, .dat (.int .i64)), (10, .dat (.int .i64))], [((nameOf 4 0), (.agg (.arr 128 .bool))), ((nameOf 6 0), (.agg (.arr 128 .bool)))]⟩), (0, ⟨[(0, .dat .str), (1, .dat (.int .i64)), (4, .loc (nameOf 4 0) []), (6, .loc (nameOf 6 0) []), (7, .dat .bool), (8, .dat (.int .i64))], [((nameOf 4 0), (.agg (.arr 128 .bool))), ((nameOf 6 0), (.agg (.arr 128 .bool)))]⟩)]

noncomputable def sem34 : CSem := sm34

noncomputable def sg46 : Sig := ⟨[.val (.agg (.arr 128 .bool))], [.val (.int .u64), .val (.int .u64)], []⟩
noncomputable def sm46 : CSem := mkSem sg46 fun x => ref01_Halves x.1
noncomputable def cf46 : Cfg := cf [] 28 0 [(0, ⟨[(1, .loc (nameOf 1 0) []), (4, .dat (.int .u64)), (5, .dat (.int .u64)), (6, .dat (.int .i64))], [((nameOf 1 0), (.agg (.arr 128 .bool)))]⟩)]

noncomputable def sem46 : CSem := sm46

noncomputable def sg36 : Sig := ⟨[.val (.agg (.arr 128 .bool)), .val (.int .i64)], [.val .str], []⟩
noncomputable def sm36 : CSem := mkSem sg36 fun x => ref01_Text x.1 x.2.1
noncomputable def cf36 : Cfg := cf [(32, sem32), (45, sem45), (18, sem18), (46, sem46)] 37 0 [(0, ⟨[(1, .dat (.int .i64)), (2, .loc (nameOf 2 0) []), (5, .dat .str)], [((nameOf 2 0), (.agg (.arr 128 .bool)))]⟩)]

noncomputable def sem36 : CSem := sm36

/-! ### shunter/shunterlaw01.WordTexts -/
noncomputable def law01_WordTexts (a_0 : Int × Int × Unit) (s_1 : List Int) (base_2 : Int) : Option ((Bool × Unit) × (Unit)) :=
  bif (decide ((s_1.length : Int) > 300)) then
    law01_lives.bind fun r_3 =>
    some ((r_3.1.1, ()), ())
  else
  (word_Parse s_1 base_2).bind fun r_4 =>
  (ref01_Parse s_1 base_2).bind fun r_5 =>
  let t29_6 : Bool := !decide (r_4.1.2.1 = r_5.1.2.1)
  guardR (!t29_6) (some r_4.1.1) (0, 0, ()) fun v_7 =>
  guardR (!t29_6) (law01_of v_7) ((List.replicate 128 false, ()), ()) fun r_8 =>
  guardR (!t29_6) (some r_5.1.1) (List.replicate 128 false) fun v_9 =>
  guardR (!t29_6) (some ()) () fun _ =>
  bif (bif t29_6 then true else (!(eqLs (fun x y => decide (x = y)) r_8.1.1 v_9))) then
    some ((false, ()), ())
  else
  let t37_12 : Bool := decide (base_2 < 2)
  guardR (!t37_12) (some ()) () fun _ =>
  guardR (!t37_12) (some (decide (base_2 > 16))) false fun v_13 =>
  bif (bif t37_12 then true else v_13) then
    (word_Text (a_0.1, a_0.2.1, ()) base_2).bind fun r_15 =>
    let t45_16 : Bool := decide (r_15.1.1 = [])
    guardR t45_16 (some ()) () fun _ =>
    guardR t45_16 (some (decide (r_4.1.2.1 = 1))) false fun v_17 =>
    let t49_18 : Bool := bif t45_16 then v_17 else false
    guardR t49_18 law01_lives ((false, ()), ()) fun r_19 =>
    some (((bif t49_18 then r_19.1.1 else false), ()), ())
  else
  (word_Text (a_0.1, a_0.2.1, ()) base_2).bind fun r_21 =>
  (law01_of (a_0.1, a_0.2.1, ())).bind fun r_22 =>
  (ref01_Text r_22.1.1 base_2).bind fun r_23 =>
  let t60_24 : Bool := decide (r_21.1.1 = r_23.1.1)
  guardR t60_24 law01_lives ((false, ()), ()) fun r_25 =>
  some (((bif t60_24 then r_25.1.1 else false), ()), ())

noncomputable def sg7 : Sig := ⟨[.val (.agg (.pair (.int .u64) (.pair (.int .u64) .unit))), .val .str, .val (.int .i64)], [.val .bool], []⟩
noncomputable def sm7 : CSem := mkSem sg7 fun x => law01_WordTexts x.1 x.2.1 x.2.2.1
noncomputable def cf7 : Cfg := cf [(14, sem14), (33, sem33), (34, sem34), (11, sem11), (35, sem35), (36, sem36)] 64 0 []

noncomputable def sem7 : CSem := sm7

/-! ### shunter/shunterlaw01.WordBack -/
noncomputable def law01_WordBack_s0 (base_1_0 : Int) (s_5_0 : List Int) (e_7_0 : Int) (f_9_0 : Int) (big_10_0 : List Int) (i_11_0 : Int) (p2_0_0 : Int × Int × Unit) (p6_0_0 : Int × Int × Unit) (p8_0_0 : Int × Int × Unit) : Option (((Int × (List Int) × Int × Int × (List Int) × Int × Unit) × ((Int × Int × Unit) × (Int × Int × Unit) × (Int × Int × Unit) × Unit)) ⊕ ((Bool × Unit) × (Unit))) :=
  bif (decide (i_11_0 < (big_10_0.length : Int))) then
    (Option.map (fun _ => i_11_0) (ckI i_11_0 big_10_0.length)).bind fun v_13 =>
    (rdI big_10_0 v_13).bind fun v_14 =>
    bif (decide (v_14 ≥ 97)) then
      (Option.map (fun _ => i_11_0) (ckI i_11_0 big_10_0.length)).bind fun v_16 =>
      (rdI big_10_0 v_16).bind fun v_17 =>
      (Option.map (fun _ => i_11_0) (ckI i_11_0 big_10_0.length)).bind fun v_19 =>
      (stI big_10_0 v_19 (IntKind.u8.wrap (v_17 - 32))).bind fun v_20 =>
      some (.inl ((base_1_0, s_5_0, e_7_0, f_9_0, v_20, (IntKind.i64.wrap (i_11_0 + 1)), ()), (p2_0_0.1, p2_0_0.2.1, ()), (p6_0_0.1, p6_0_0.2.1, ()), (p8_0_0.1, p8_0_0.2.1, ()), ()))
    else
    some (.inl ((base_1_0, s_5_0, e_7_0, f_9_0, big_10_0, (IntKind.i64.wrap (i_11_0 + 1)), ()), (p2_0_0.1, p2_0_0.2.1, ()), (p6_0_0.1, p6_0_0.2.1, ()), (p8_0_0.1, p8_0_0.2.1, ()), ()))
  else
  ((word_Parse big_10_0 base_1_0).bind fun r_23 =>
  (word_Not (0, 0, ())).bind fun r_24 =>
  (word_Text r_24.1.1 base_1_0).bind fun r_25 =>
  (catI r_25.1.1 [48]).bind fun v_26 =>
  (word_Parse v_26 base_1_0).bind fun r_27 =>
  bif (decide (s_5_0 = [])) then
    some ((false, ()), ())
  else
  let t85_29 : Bool := decide (p6_0_0.1 = p2_0_0.1) && decide (p6_0_0.2.1 = p2_0_0.2.1)
  guardR t85_29 (some ()) () fun _ =>
  guardR t85_29 (some (decide (e_7_0 = 0))) false fun v_30 =>
  let t89_31 : Bool := bif t85_29 then v_30 else false
  guardR t89_31 (some (p8_0_0.1, p8_0_0.2.1, ())) (0, 0, ()) fun v_32 =>
  guardR t89_31 (some (p2_0_0.1, p2_0_0.2.1, ())) (0, 0, ()) fun v_33 =>
  guardR t89_31 (some ()) () fun _ =>
  let t94_35 : Bool := bif t89_31 then (decide (v_32.1 = v_33.1) && decide (v_32.2.1 = v_33.2.1)) else false
  guardR t94_35 (some ()) () fun _ =>
  guardR t94_35 (some (decide (f_9_0 = 0))) false fun v_36 =>
  let t98_37 : Bool := bif t94_35 then v_36 else false
  guardR t98_37 (some r_23.1.1) (0, 0, ()) fun v_38 =>
  guardR t98_37 (some (p2_0_0.1, p2_0_0.2.1, ())) (0, 0, ()) fun v_39 =>
  guardR t98_37 (some ()) () fun _ =>
  let t103_41 : Bool := bif t98_37 then (decide (v_38.1 = v_39.1) && decide (v_38.2.1 = v_39.2.1)) else false
  guardR t103_41 (some ()) () fun _ =>
  guardR t103_41 (some (decide (r_23.1.2.1 = 0))) false fun v_42 =>
  let t107_43 : Bool := bif t103_41 then v_42 else false
  guardR t107_43 (some ()) () fun _ =>
  guardR t107_43 (some (decide (r_27.1.2.1 = 7))) false fun v_44 =>
  let t111_45 : Bool := bif t107_43 then v_44 else false
  guardR t111_45 (some ()) () fun _ =>
  guardR t111_45 (some (s_5_0.length : Int)) 0 fun v_46 =>
  guardR t111_45 (some (decide (v_46 = 1))) false fun v_47 =>
  guardR t111_45 (some ()) () fun _ =>
  guardR (t111_45 && (!v_47)) (some ()) () fun _ =>
  guardR (t111_45 && (!v_47)) (rdI s_5_0 0) 0 fun v_48 =>
  guardR (t111_45 && (!v_47)) (some (!decide (v_48 = 48))) false fun v_49 =>
  guardR t111_45 (some ()) () fun _ =>
  let t121_51 : Bool := bif t111_45 then (bif v_47 then true else v_49) else false
  guardR t121_51 law01_lives ((false, ()), ()) fun r_52 =>
  some (((bif t121_51 then r_52.1.1 else false), ()), ())).map .inr
noncomputable def law01_WordBack (a_0 : Int × Int × Unit) (base_1 : Int) : Option ((Bool × Unit) × (Unit)) :=
  (word_Text (a_0.1, a_0.2.1, ()) base_1).bind fun r_1 =>
  let t20_2 : Bool := decide (base_1 < 2)
  guardR (!t20_2) (some ()) () fun _ =>
  guardR (!t20_2) (some (decide (base_1 > 16))) false fun v_3 =>
  bif (bif t20_2 then true else v_3) then
    let t26_5 : Bool := decide (r_1.1.1 = [])
    guardR t26_5 law01_lives ((false, ()), ()) fun r_6 =>
    some (((bif t26_5 then r_6.1.1 else false), ()), ())
  else
  (word_Parse r_1.1.1 base_1).bind fun r_8 =>
  (catI [48, 48] r_1.1.1).bind fun v_9 =>
  (word_Parse v_9 base_1).bind fun r_10 =>
  loopR (fun (z : (Int × (List Int) × Int × Int × (List Int) × Int × Unit) × ((Int × Int × Unit) × (Int × Int × Unit) × (Int × Int × Unit) × Unit)) => law01_WordBack_s0 z.1.1 z.1.2.1 z.1.2.2.1 z.1.2.2.2.1 z.1.2.2.2.2.1 z.1.2.2.2.2.2.1 z.2.1 z.2.2.1 z.2.2.2.1) ((base_1, r_1.1.1, r_8.1.2.1, r_10.1.2.1, r_1.1.1, 0, ()), (a_0.1, a_0.2.1, ()), r_8.1.1, r_10.1.1, ())

noncomputable def sg8 : Sig := ⟨[.val (.agg (.pair (.int .u64) (.pair (.int .u64) .unit))), .val (.int .i64)], [.val .bool], []⟩
noncomputable def sm8 : CSem := mkSem sg8 fun x => law01_WordBack x.1 x.2.1
noncomputable def cf8 : Cfg := cf [(35, sem35), (14, sem14), (33, sem33), (23, sem23)] 125 0 [(0, ⟨[(1, .dat (.int .i64)), (2, .loc (nameOf 2 0) []), (5, .dat .str), (6, .loc (nameOf 6 0) []), (7, .dat (.int .i64)), (8, .loc (nameOf 8 0) []), (9, .dat (.int .i64)), (10, .own (.int .u8) false), (11, .dat (.int .i64))], [((nameOf 2 0), (.agg (.pair (.int .u64) (.pair (.int .u64) .unit)))), ((nameOf 6 0), (.agg (.pair (.int .u64) (.pair (.int .u64) .unit)))), ((nameOf 8 0), (.agg (.pair (.int .u64) (.pair (.int .u64) .unit))))]⟩)]

noncomputable def sem8 : CSem := sm8

end Go.Proofs.Ytblhcabnmjanjaa

namespace Go.Proofs.Ytblhcabnmjanjaa
open Go Go.Pv Go.Proofs Go.L
set_option maxRecDepth 100000

theorem r26 (word_Shl : (Int × Int × Unit) → Int → Option (((Int × Int × Unit) × Unit) × (Unit))) (word_Shr : (Int × Int × Unit) → Int → Option (((Int × Int × Unit) × Unit) × (Unit))) (x : ArgT ag26) : runFAM (cf26 word_Shl word_Shr) ag26 al26 (bodyOf Try.f26) [(4, some 24)] x = word_Shl_g word_Shl word_Shr x.1 x.2.1 := by kernel_rfl

theorem r12 (x : ArgT ag12) : runFAM cf12 ag12 al12 (bodyOf Try.f12) [(4, some 24), (5, none)] x = word_Sub x.1 x.2.1 := by kernel_rfl

theorem r9 (x : ArgT ag9) : runFAM cf9 ag9 al9 (bodyOf Try.f9) [(4, some 24), (5, none)] x = word_Add x.1 x.2.1 := by kernel_rfl

theorem r16 (x : ArgT ag16) : runFAM cf16 ag16 al16 (bodyOf Try.f16) [(4, some 28)] x = ref01_Product x.1 x.2.1 := by kernel_rfl

theorem r19 (x : ArgT ag19) : runFAM cf19 ag19 al19 (bodyOf Try.f19) [(4, some 28)] x = ref01_Of x.1 x.2.1 := by kernel_rfl

theorem r20 (x : ArgT ag20) : runFAM cf20 ag20 al20 (bodyOf Try.f20) [(4, some 24)] x = word_And x.1 x.2.1 := by kernel_rfl

theorem r21 (x : ArgT ag21) : runFAM cf21 ag21 al21 (bodyOf Try.f21) [(4, some 24)] x = word_Or x.1 x.2.1 := by kernel_rfl

theorem r39 (x : ArgT ag39) : runFAM cf39 ag39 al39 (bodyOf Try.f39) [(2, some 28)] x = ref01_Turned x.1 := by kernel_rfl

theorem r7 (x : ArgT sg7.args) : runFM cf7 sg7 (bodyOf Try.f7) [6] x = law01_WordTexts x.1 x.2.1 x.2.2.1 := by kernel_rfl

theorem r45 (x : ArgT ag45) : runFAM cf45 ag45 al45 (bodyOf Try.f45) [(2, some 28)] x = ref01_small x.1 := by kernel_rfl

theorem r11 (x : ArgT ag11) : runFAM cf11 ag11 al11 (bodyOf Try.f11) [(2, some 28)] x = law01_of x.1 := by kernel_rfl

theorem r23 (x : ArgT ag23) : runFAM cf23 ag23 al23 (bodyOf Try.f23) [(2, some 24)] x = word_Not x.1 := by kernel_rfl

theorem r40 (x : ArgT sg40.args) : runFM cf40 sg40 (bodyOf Try.f40) [4, 5] x = bits_Mul64 x.1 x.2.1 := by kernel_rfl

theorem r36 (x : ArgT sg36.args) : runFM cf36 sg36 (bodyOf Try.f36) [4] x = ref01_Text x.1 x.2.1 := by kernel_rfl

theorem r3 (x : ArgT sg3.args) : runFM cf3 sg3 (bodyOf Try.f3) [4] x = law01_WordAdds x.1 x.2.1 := by kernel_rfl

theorem r25 (x : ArgT sg25.args) : runFM cf25 sg25 (bodyOf Try.f25) [4] x = word_Bit x.1 x.2.1 := by kernel_rfl

theorem r29 (x : ArgT sg29.args) : runFM cf29 sg29 (bodyOf Try.f29) [4] x = word_Cmp x.1 x.2.1 := by kernel_rfl

theorem r43 (x : ArgT sg43.args) : runFM cf43 sg43 (bodyOf Try.f43) [2] x = word_based x.1 := by kernel_rfl

theorem r44 (x : ArgT sg44.args) : runFM cf44 sg44 (bodyOf Try.f44) [2] x = word_digit x.1 := by kernel_rfl

theorem r32 (x : ArgT sg32.args) : runFM cf32 sg32 (bodyOf Try.f32) [2] x = ref01_Len x.1 := by kernel_rfl

theorem r31 (x : ArgT sg31.args) : runFM cf31 sg31 (bodyOf Try.f31) [2] x = word_Len x.1 := by kernel_rfl

theorem r14 (x : ArgT sg14.args) : runFM cf14 sg14 (bodyOf Try.f14) [0] x = law01_lives := by kernel_rfl

end Go.Proofs.Ytblhcabnmjanjaa

namespace Go.Proofs.Ytblhcabnmjanjaa
open Go Go.Pv Go.Proofs Go.L
set_option maxRecDepth 100000

theorem r28 (word_Shl : (Int × Int × Unit) → Int → Option (((Int × Int × Unit) × Unit) × (Unit))) (word_Shr : (Int × Int × Unit) → Int → Option (((Int × Int × Unit) × Unit) × (Unit))) (x : ArgT ag28) : runFAM (cf28 word_Shl word_Shr) ag28 al28 (bodyOf Try.f28) [(4, some 24)] x = word_Shr_g word_Shl word_Shr x.1 x.2.1 := by kernel_rfl

theorem r18 (x : ArgT ag18) : runFAM cf18 ag18 al18 (bodyOf Try.f18) [(4, some 28), (5, some 28)] x = ref01_Part x.1 x.2.1 := by kernel_rfl

theorem r33 (x : ArgT ag33) : runFAM cf33 ag33 al33 (bodyOf Try.f33) [(4, some 24), (5, none)] x = word_Parse x.1 x.2.1 := by kernel_rfl

theorem r41 (x : ArgT sg41.args) : runFM cf41 sg41 (bodyOf Try.f41) [6, 7] x = bits_Div64 x.1 x.2.1 x.2.2.1 := by kernel_rfl

theorem r6 (x : ArgT sg6.args) : runFM cf6 sg6 (bodyOf Try.f6) [4] x = law01_WordOrders x.1 x.2.1 := by kernel_rfl

theorem r8 (x : ArgT sg8.args) : runFM cf8 sg8 (bodyOf Try.f8) [4] x = law01_WordBack x.1 x.2.1 := by kernel_rfl

end Go.Proofs.Ytblhcabnmjanjaa

namespace Go.Proofs.Ytblhcabnmjanjaa
open Go Go.Pv Go.Proofs Go.L
set_option maxRecDepth 100000

theorem r17 (x : ArgT ag17) : runFAM cf17 ag17 al17 (bodyOf Try.f17) [(4, some 24), (5, none), (6, none)] x = word_Div x.1 x.2.1 := by kernel_rfl

theorem r13 (x : ArgT ag13) : runFAM cf13 ag13 al13 (bodyOf Try.f13) [(4, some 28), (5, none)] x = ref01_Minus x.1 x.2.1 := by kernel_rfl

theorem r34 (x : ArgT ag34) : runFAM cf34 ag34 al34 (bodyOf Try.f34) [(4, some 28), (5, none)] x = ref01_Parse x.1 x.2.1 := by kernel_rfl

theorem r5 (x : ArgT sg5.args) : runFM cf5 sg5 (bodyOf Try.f5) [6] x = law01_WordBits x.1 x.2.1 x.2.2.1 := by kernel_rfl

end Go.Proofs.Ytblhcabnmjanjaa

namespace Go.Proofs.Ytblhcabnmjanjaa
open Go Go.Pv Go.Proofs Go.L
set_option maxRecDepth 100000

theorem r10 (x : ArgT ag10) : runFAM cf10 ag10 al10 (bodyOf Try.f10) [(6, some 28), (7, none)] x = ref01_Sum x.1 x.2.1 x.2.2.1 := by kernel_rfl

theorem r27 (x : ArgT ag27) : runFAM cf27 ag27 al27 (bodyOf Try.f27) [(4, some 28)] x = ref01_Moved x.1 x.2.1 := by kernel_rfl

theorem r15 (x : ArgT ag15) : runFAM cf15 ag15 al15 (bodyOf Try.f15) [(4, some 24)] x = word_Mul x.1 x.2.1 := by kernel_rfl

theorem r22 (x : ArgT ag22) : runFAM cf22 ag22 al22 (bodyOf Try.f22) [(4, some 24)] x = word_Xor x.1 x.2.1 := by kernel_rfl

theorem r4 (x : ArgT sg4.args) : runFM cf4 sg4 (bodyOf Try.f4) [6] x = law01_WordTimes x.1 x.2.1 x.2.2.1 := by kernel_rfl

theorem r24 (x : ArgT ag24) : runFAM cf24 ag24 al24 (bodyOf Try.f24) [(2, some 24)] x = word_Ones x.1 := by kernel_rfl

theorem r47 (x : ArgT sg47.args) : runFM cf47 sg47 (bodyOf Try.f47) [2] x = bits_LeadingZeros64 x.1 := by kernel_rfl

theorem r30 (x : ArgT sg30.args) : runFM cf30 sg30 (bodyOf Try.f30) [4] x = ref01_Less x.1 x.2.1 := by kernel_rfl

theorem r35 (x : ArgT sg35.args) : runFM cf35 sg35 (bodyOf Try.f35) [4] x = word_Text x.1 x.2.1 := by kernel_rfl

theorem r46 (x : ArgT sg46.args) : runFM cf46 sg46 (bodyOf Try.f46) [2, 3] x = ref01_Halves x.1 := by kernel_rfl

theorem r42 (x : ArgT sg42.args) : runFM cf42 sg42 (bodyOf Try.f42) [2] x = bits_Len64 x.1 := by kernel_rfl

end Go.Proofs.Ytblhcabnmjanjaa

namespace Go.Proofs.Ytblhcabnmjanjaa
open Go Go.Pv Go.Proofs Go.L
set_option maxRecDepth 100000

theorem c37 : Contract Try.prog 37 sm37 := add64_contract Try.func37 (by kernel_rfl) (by kernel_rfl) (by kernel_rfl) (by kernel_rfl)

theorem k37 : Contract Try.prog 37 sem37 := c37

theorem c9 : Contract Try.prog 9 sm9 :=
  contract_ofAM (C := cf9) (fun f sem h => (Tab.cons k37 Tab.nil : Tab _) _ (lk_mem' h)) (args := ag9) (alts := al9) (fn := Try.f9) (c := bodyOf Try.f9) (ts := [(4, some 24), (5, none)]) Try.func9 (by kernel_rfl) (by kernel_rfl) (by kernel_rfl) (by kernel_rfl) (by kernel_rfl) (by kernel_rfl) (by kernel_rfl) r9

theorem k9 : Contract Try.prog 9 sem9 := c9

theorem c19 : Contract Try.prog 19 sm19 :=
  contract_ofAM (C := cf19) (fun f sem h => (Tab.nil : Tab _) _ (lk_mem' h)) (args := ag19) (alts := al19) (fn := Try.f19) (c := bodyOf Try.f19) (ts := [(4, some 28)]) Try.func19 (by kernel_rfl) (by kernel_rfl) (by kernel_rfl) (by kernel_rfl) (by kernel_rfl) (by kernel_rfl) (by kernel_rfl) r19

theorem k19 : Contract Try.prog 19 sem19 := c19

theorem c11 : Contract Try.prog 11 sm11 :=
  contract_ofAM (C := cf11) (fun f sem h => (Tab.cons k19 Tab.nil : Tab _) _ (lk_mem' h)) (args := ag11) (alts := al11) (fn := Try.f11) (c := bodyOf Try.f11) (ts := [(2, some 28)]) Try.func11 (by kernel_rfl) (by kernel_rfl) (by kernel_rfl) (by kernel_rfl) (by kernel_rfl) (by kernel_rfl) (by kernel_rfl) r11

theorem k11 : Contract Try.prog 11 sem11 := c11

theorem c10 : Contract Try.prog 10 sm10 :=
  contract_ofAM (C := cf10) (fun f sem h => (Tab.nil : Tab _) _ (lk_mem' h)) (args := ag10) (alts := al10) (fn := Try.f10) (c := bodyOf Try.f10) (ts := [(6, some 28), (7, none)]) Try.func10 (by kernel_rfl) (by kernel_rfl) (by kernel_rfl) (by kernel_rfl) (by kernel_rfl) (by kernel_rfl) (by kernel_rfl) r10

theorem k10 : Contract Try.prog 10 sem10 := c10

theorem c38 : Contract Try.prog 38 sm38 := sub64_contract Try.func38 (by kernel_rfl) (by kernel_rfl) (by kernel_rfl) (by kernel_rfl)

theorem k38 : Contract Try.prog 38 sem38 := c38

theorem c12 : Contract Try.prog 12 sm12 :=
  contract_ofAM (C := cf12) (fun f sem h => (Tab.cons k38 Tab.nil : Tab _) _ (lk_mem' h)) (args := ag12) (alts := al12) (fn := Try.f12) (c := bodyOf Try.f12) (ts := [(4, some 24), (5, none)]) Try.func12 (by kernel_rfl) (by kernel_rfl) (by kernel_rfl) (by kernel_rfl) (by kernel_rfl) (by kernel_rfl) (by kernel_rfl) r12

theorem k12 : Contract Try.prog 12 sem12 := c12

theorem c39 : Contract Try.prog 39 sm39 :=
  contract_ofAM (C := cf39) (fun f sem h => (Tab.nil : Tab _) _ (lk_mem' h)) (args := ag39) (alts := al39) (fn := Try.f39) (c := bodyOf Try.f39) (ts := [(2, some 28)]) Try.func39 (by kernel_rfl) (by kernel_rfl) (by kernel_rfl) (by kernel_rfl) (by kernel_rfl) (by kernel_rfl) (by kernel_rfl) r39

theorem k39 : Contract Try.prog 39 sem39 := c39

theorem c30 : Contract Try.prog 30 sm30 :=
  contract_ofM (C := cf30) (fun f sem h => (Tab.nil : Tab _) _ (lk_mem' h)) (S := sg30) (fn := Try.f30) (c := bodyOf Try.f30) (ts := [4]) Try.func30 (by kernel_rfl) (by kernel_rfl) (by kernel_rfl) (by kernel_rfl) (by kernel_rfl) (by kernel_rfl) (by kernel_rfl) r30

theorem k30 : Contract Try.prog 30 sem30 := c30

theorem c13 : Contract Try.prog 13 sm13 :=
  contract_ofAM (C := cf13) (fun f sem h => (Tab.cons k39 (Tab.cons k10 (Tab.cons k30 Tab.nil)) : Tab _) _ (lk_mem' h)) (args := ag13) (alts := al13) (fn := Try.f13) (c := bodyOf Try.f13) (ts := [(4, some 28), (5, none)]) Try.func13 (by kernel_rfl) (by kernel_rfl) (by kernel_rfl) (by kernel_rfl) (by kernel_rfl) (by kernel_rfl) (by kernel_rfl) r13

theorem k13 : Contract Try.prog 13 sem13 := c13

theorem c43 : Contract Try.prog 43 sm43 :=
  contract_ofM (C := cf43) (fun f sem h => (Tab.nil : Tab _) _ (lk_mem' h)) (S := sg43) (fn := Try.f43) (c := bodyOf Try.f43) (ts := [2]) Try.func43 (by kernel_rfl) (by kernel_rfl) (by kernel_rfl) (by kernel_rfl) (by kernel_rfl) (by kernel_rfl) (by kernel_rfl) r43

theorem k43 : Contract Try.prog 43 sem43 := c43

theorem c42 : Contract Try.prog 42 sm42 :=
  contract_ofM (C := cf42) (fun f sem h => (Tab.nil : Tab _) _ (lk_mem' h)) (S := sg42) (fn := Try.f42) (c := bodyOf Try.f42) (ts := [2]) Try.func42 (by kernel_rfl) (by kernel_rfl) (by kernel_rfl) (by kernel_rfl) (by kernel_rfl) (by kernel_rfl) (by kernel_rfl) r42

theorem k42 : Contract Try.prog 42 sem42 := c42

theorem c47 : Contract Try.prog 47 sm47 :=
  contract_ofM (C := cf47) (fun f sem h => (Tab.cons k42 Tab.nil : Tab _) _ (lk_mem' h)) (S := sg47) (fn := Try.f47) (c := bodyOf Try.f47) (ts := [2]) Try.func47 (by kernel_rfl) (by kernel_rfl) (by kernel_rfl) (by kernel_rfl) (by kernel_rfl) (by kernel_rfl) (by kernel_rfl) r47

theorem k47 : Contract Try.prog 47 sem47 := c47

theorem c41 : Contract Try.prog 41 sm41 :=
  contract_ofM (C := cf41) (fun f sem h => (Tab.cons k47 Tab.nil : Tab _) _ (lk_mem' h)) (S := sg41) (fn := Try.f41) (c := bodyOf Try.f41) (ts := [6, 7]) Try.func41 (by kernel_rfl) (by kernel_rfl) (by kernel_rfl) (by kernel_rfl) (by kernel_rfl) (by kernel_rfl) (by kernel_rfl) r41

theorem k41 : Contract Try.prog 41 sem41 := c41

theorem c17 : Contract Try.prog 17 sm17 :=
  contract_ofAM (C := cf17) (fun f sem h => (Tab.cons k41 Tab.nil : Tab _) _ (lk_mem' h)) (args := ag17) (alts := al17) (fn := Try.f17) (c := bodyOf Try.f17) (ts := [(4, some 24), (5, none), (6, none)]) Try.func17 (by kernel_rfl) (by kernel_rfl) (by kernel_rfl) (by kernel_rfl) (by kernel_rfl) (by kernel_rfl) (by kernel_rfl) r17

theorem k17 : Contract Try.prog 17 sem17 := c17

theorem c35 : Contract Try.prog 35 sm35 :=
  contract_ofM (C := cf35) (fun f sem h => (Tab.cons k43 (Tab.cons k17 Tab.nil) : Tab _) _ (lk_mem' h)) (S := sg35) (fn := Try.f35) (c := bodyOf Try.f35) (ts := [4]) Try.func35 (by kernel_rfl) (by kernel_rfl) (by kernel_rfl) (by kernel_rfl) (by kernel_rfl) (by kernel_rfl) (by kernel_rfl) r35

theorem k35 : Contract Try.prog 35 sem35 := c35

theorem c14 : Contract Try.prog 14 sm14 :=
  contract_ofM (C := cf14) (fun f sem h => (Tab.cons k9 (Tab.cons k35 Tab.nil) : Tab _) _ (lk_mem' h)) (S := sg14) (fn := Try.f14) (c := bodyOf Try.f14) (ts := [0]) Try.func14 (by kernel_rfl) (by kernel_rfl) (by kernel_rfl) (by kernel_rfl) (by kernel_rfl) (by kernel_rfl) (by kernel_rfl) r14

theorem k14 : Contract Try.prog 14 sem14 := c14

theorem c3 : Contract Try.prog 3 sm3 :=
  contract_ofM (C := cf3) (fun f sem h => (Tab.cons k9 (Tab.cons k11 (Tab.cons k10 (Tab.cons k12 (Tab.cons k13 (Tab.cons k14 Tab.nil))))) : Tab _) _ (lk_mem' h)) (S := sg3) (fn := Try.f3) (c := bodyOf Try.f3) (ts := [4]) Try.func3 (by kernel_rfl) (by kernel_rfl) (by kernel_rfl) (by kernel_rfl) (by kernel_rfl) (by kernel_rfl) (by kernel_rfl) r3

theorem k3 : Contract Try.prog 3 sem3 := c3

theorem c40 : Contract Try.prog 40 sm40 :=
  contract_ofM (C := cf40) (fun f sem h => (Tab.nil : Tab _) _ (lk_mem' h)) (S := sg40) (fn := Try.f40) (c := bodyOf Try.f40) (ts := [4, 5]) Try.func40 (by kernel_rfl) (by kernel_rfl) (by kernel_rfl) (by kernel_rfl) (by kernel_rfl) (by kernel_rfl) (by kernel_rfl) r40

theorem k40 : Contract Try.prog 40 sem40 := c40

theorem c15 : Contract Try.prog 15 sm15 :=
  contract_ofAM (C := cf15) (fun f sem h => (Tab.cons k40 Tab.nil : Tab _) _ (lk_mem' h)) (args := ag15) (alts := al15) (fn := Try.f15) (c := bodyOf Try.f15) (ts := [(4, some 24)]) Try.func15 (by kernel_rfl) (by kernel_rfl) (by kernel_rfl) (by kernel_rfl) (by kernel_rfl) (by kernel_rfl) (by kernel_rfl) r15

theorem k15 : Contract Try.prog 15 sem15 := c15

theorem c27 : Contract Try.prog 27 sm27 :=
  contract_ofAM (C := cf27) (fun f sem h => (Tab.nil : Tab _) _ (lk_mem' h)) (args := ag27) (alts := al27) (fn := Try.f27) (c := bodyOf Try.f27) (ts := [(4, some 28)]) Try.func27 (by kernel_rfl) (by kernel_rfl) (by kernel_rfl) (by kernel_rfl) (by kernel_rfl) (by kernel_rfl) (by kernel_rfl) r27

theorem k27 : Contract Try.prog 27 sem27 := c27

theorem c16 : Contract Try.prog 16 sm16 :=
  contract_ofAM (C := cf16) (fun f sem h => (Tab.cons k27 (Tab.cons k10 Tab.nil) : Tab _) _ (lk_mem' h)) (args := ag16) (alts := al16) (fn := Try.f16) (c := bodyOf Try.f16) (ts := [(4, some 28)]) Try.func16 (by kernel_rfl) (by kernel_rfl) (by kernel_rfl) (by kernel_rfl) (by kernel_rfl) (by kernel_rfl) (by kernel_rfl) r16

theorem k16 : Contract Try.prog 16 sem16 := c16

theorem c18 : Contract Try.prog 18 sm18 :=
  contract_ofAM (C := cf18) (fun f sem h => (Tab.cons k27 (Tab.cons k30 (Tab.cons k13 Tab.nil)) : Tab _) _ (lk_mem' h)) (args := ag18) (alts := al18) (fn := Try.f18) (c := bodyOf Try.f18) (ts := [(4, some 28), (5, some 28)]) Try.func18 (by kernel_rfl) (by kernel_rfl) (by kernel_rfl) (by kernel_rfl) (by kernel_rfl) (by kernel_rfl) (by kernel_rfl) r18

theorem k18 : Contract Try.prog 18 sem18 := c18

theorem c4 : Contract Try.prog 4 sm4 :=
  contract_ofM (C := cf4) (fun f sem h => (Tab.cons k15 (Tab.cons k11 (Tab.cons k16 (Tab.cons k17 (Tab.cons k14 (Tab.cons k19 (Tab.cons k18 (Tab.cons k9 Tab.nil))))))) : Tab _) _ (lk_mem' h)) (S := sg4) (fn := Try.f4) (c := bodyOf Try.f4) (ts := [6]) Try.func4 (by kernel_rfl) (by kernel_rfl) (by kernel_rfl) (by kernel_rfl) (by kernel_rfl) (by kernel_rfl) (by kernel_rfl) r4

theorem k4 : Contract Try.prog 4 sem4 := c4

theorem c20 : Contract Try.prog 20 sm20 :=
  contract_ofAM (C := cf20) (fun f sem h => (Tab.nil : Tab _) _ (lk_mem' h)) (args := ag20) (alts := al20) (fn := Try.f20) (c := bodyOf Try.f20) (ts := [(4, some 24)]) Try.func20 (by kernel_rfl) (by kernel_rfl) (by kernel_rfl) (by kernel_rfl) (by kernel_rfl) (by kernel_rfl) (by kernel_rfl) r20

theorem k20 : Contract Try.prog 20 sem20 := c20

theorem c21 : Contract Try.prog 21 sm21 :=
  contract_ofAM (C := cf21) (fun f sem h => (Tab.nil : Tab _) _ (lk_mem' h)) (args := ag21) (alts := al21) (fn := Try.f21) (c := bodyOf Try.f21) (ts := [(4, some 24)]) Try.func21 (by kernel_rfl) (by kernel_rfl) (by kernel_rfl) (by kernel_rfl) (by kernel_rfl) (by kernel_rfl) (by kernel_rfl) r21

theorem k21 : Contract Try.prog 21 sem21 := c21

theorem c22 : Contract Try.prog 22 sm22 :=
  contract_ofAM (C := cf22) (fun f sem h => (Tab.nil : Tab _) _ (lk_mem' h)) (args := ag22) (alts := al22) (fn := Try.f22) (c := bodyOf Try.f22) (ts := [(4, some 24)]) Try.func22 (by kernel_rfl) (by kernel_rfl) (by kernel_rfl) (by kernel_rfl) (by kernel_rfl) (by kernel_rfl) (by kernel_rfl) r22

theorem k22 : Contract Try.prog 22 sem22 := c22

theorem c23 : Contract Try.prog 23 sm23 :=
  contract_ofAM (C := cf23) (fun f sem h => (Tab.nil : Tab _) _ (lk_mem' h)) (args := ag23) (alts := al23) (fn := Try.f23) (c := bodyOf Try.f23) (ts := [(2, some 24)]) Try.func23 (by kernel_rfl) (by kernel_rfl) (by kernel_rfl) (by kernel_rfl) (by kernel_rfl) (by kernel_rfl) (by kernel_rfl) r23

theorem k23 : Contract Try.prog 23 sem23 := c23

theorem c26S (word_Shl : (Int × Int × Unit) → Int → Option (((Int × Int × Unit) × Unit) × (Unit))) (word_Shr : (Int × Int × Unit) → Int → Option (((Int × Int × Unit) × Unit) × (Unit))) (h26 : Contract Try.prog 26 (sm26 word_Shl)) (h28 : Contract Try.prog 28 (sm28 word_Shr)) : Contract Try.prog 26 (sm26 (word_Shl_g word_Shl word_Shr)) :=
  contract_ofAM (C := cf26 word_Shl word_Shr) (fun f sem h => (Tab.cons h28 Tab.nil : Tab _) _ (lk_mem' h)) (args := ag26) (alts := al26) (fn := Try.f26) (c := bodyOf Try.f26) (ts := [(4, some 24)]) Try.func26 (by kernel_rfl) (by kernel_rfl) (by kernel_rfl) (by kernel_rfl) (by kernel_rfl) (by kernel_rfl) (by kernel_rfl) (r26 word_Shl word_Shr)
theorem c28S (word_Shl : (Int × Int × Unit) → Int → Option (((Int × Int × Unit) × Unit) × (Unit))) (word_Shr : (Int × Int × Unit) → Int → Option (((Int × Int × Unit) × Unit) × (Unit))) (h26 : Contract Try.prog 26 (sm26 word_Shl)) (h28 : Contract Try.prog 28 (sm28 word_Shr)) : Contract Try.prog 28 (sm28 (word_Shr_g word_Shl word_Shr)) :=
  contract_ofAM (C := cf28 word_Shl word_Shr) (fun f sem h => (Tab.cons h26 Tab.nil : Tab _) _ (lk_mem' h)) (args := ag28) (alts := al28) (fn := Try.f28) (c := bodyOf Try.f28) (ts := [(4, some 24)]) Try.func28 (by kernel_rfl) (by kernel_rfl) (by kernel_rfl) (by kernel_rfl) (by kernel_rfl) (by kernel_rfl) (by kernel_rfl) (r28 word_Shl word_Shr)
theorem lc28 : ∀ k, Contract Try.prog 26 (sm26 ((word_Shr_lv k).1)) ∧ Contract Try.prog 28 (sm28 ((word_Shr_lv k).2))
  | 0 => ⟨(by intro avs s hs r hr w B os ow vs _ _; obtain ⟨x, hx, rfl⟩ := Option.map_eq_some_iff.1 hs; cases hr), (by intro avs s hs r hr w B os ow vs _ _; obtain ⟨x, hx, rfl⟩ := Option.map_eq_some_iff.1 hs; cases hr)⟩
  | k + 1 => by
    have ih := lc28 k
    exact ⟨c26S _ _ ih.1 ih.2, c28S _ _ ih.1 ih.2⟩
theorem c26 : Contract Try.prog 26 (sm26 word_Shl) := (lc28 3).1
theorem c28 : Contract Try.prog 28 (sm28 word_Shr) := (lc28 3).2

theorem k28 : Contract Try.prog 28 sem28 := c28

theorem k26 : Contract Try.prog 26 sem26 := c26

theorem c24 : Contract Try.prog 24 sm24 :=
  contract_ofAM (C := cf24) (fun f sem h => (Tab.cons k23 (Tab.cons k26 (Tab.cons k12 Tab.nil)) : Tab _) _ (lk_mem' h)) (args := ag24) (alts := al24) (fn := Try.f24) (c := bodyOf Try.f24) (ts := [(2, some 24)]) Try.func24 (by kernel_rfl) (by kernel_rfl) (by kernel_rfl) (by kernel_rfl) (by kernel_rfl) (by kernel_rfl) (by kernel_rfl) r24

theorem k24 : Contract Try.prog 24 sem24 := c24

theorem c25 : Contract Try.prog 25 sm25 :=
  contract_ofM (C := cf25) (fun f sem h => (Tab.cons k28 Tab.nil : Tab _) _ (lk_mem' h)) (S := sg25) (fn := Try.f25) (c := bodyOf Try.f25) (ts := [4]) Try.func25 (by kernel_rfl) (by kernel_rfl) (by kernel_rfl) (by kernel_rfl) (by kernel_rfl) (by kernel_rfl) (by kernel_rfl) r25

theorem k25 : Contract Try.prog 25 sem25 := c25

theorem c5 : Contract Try.prog 5 sm5 :=
  contract_ofM (C := cf5) (fun f sem h => (Tab.cons k11 (Tab.cons k20 (Tab.cons k21 (Tab.cons k22 (Tab.cons k23 (Tab.cons k24 (Tab.cons k25 (Tab.cons k26 (Tab.cons k27 (Tab.cons k28 (Tab.cons k14 Tab.nil)))))))))) : Tab _) _ (lk_mem' h)) (S := sg5) (fn := Try.f5) (c := bodyOf Try.f5) (ts := [6]) Try.func5 (by kernel_rfl) (by kernel_rfl) (by kernel_rfl) (by kernel_rfl) (by kernel_rfl) (by kernel_rfl) (by kernel_rfl) r5

theorem k5 : Contract Try.prog 5 sem5 := c5

theorem c29 : Contract Try.prog 29 sm29 :=
  contract_ofM (C := cf29) (fun f sem h => (Tab.cons k12 Tab.nil : Tab _) _ (lk_mem' h)) (S := sg29) (fn := Try.f29) (c := bodyOf Try.f29) (ts := [4]) Try.func29 (by kernel_rfl) (by kernel_rfl) (by kernel_rfl) (by kernel_rfl) (by kernel_rfl) (by kernel_rfl) (by kernel_rfl) r29

theorem k29 : Contract Try.prog 29 sem29 := c29

theorem c31 : Contract Try.prog 31 sm31 :=
  contract_ofM (C := cf31) (fun f sem h => (Tab.cons k42 Tab.nil : Tab _) _ (lk_mem' h)) (S := sg31) (fn := Try.f31) (c := bodyOf Try.f31) (ts := [2]) Try.func31 (by kernel_rfl) (by kernel_rfl) (by kernel_rfl) (by kernel_rfl) (by kernel_rfl) (by kernel_rfl) (by kernel_rfl) r31

theorem k31 : Contract Try.prog 31 sem31 := c31

theorem c32 : Contract Try.prog 32 sm32 :=
  contract_ofM (C := cf32) (fun f sem h => (Tab.nil : Tab _) _ (lk_mem' h)) (S := sg32) (fn := Try.f32) (c := bodyOf Try.f32) (ts := [2]) Try.func32 (by kernel_rfl) (by kernel_rfl) (by kernel_rfl) (by kernel_rfl) (by kernel_rfl) (by kernel_rfl) (by kernel_rfl) r32

theorem k32 : Contract Try.prog 32 sem32 := c32

theorem c6 : Contract Try.prog 6 sm6 :=
  contract_ofM (C := cf6) (fun f sem h => (Tab.cons k29 (Tab.cons k11 (Tab.cons k30 (Tab.cons k31 (Tab.cons k32 (Tab.cons k24 (Tab.cons k14 Tab.nil)))))) : Tab _) _ (lk_mem' h)) (S := sg6) (fn := Try.f6) (c := bodyOf Try.f6) (ts := [4]) Try.func6 (by kernel_rfl) (by kernel_rfl) (by kernel_rfl) (by kernel_rfl) (by kernel_rfl) (by kernel_rfl) (by kernel_rfl) r6

theorem k6 : Contract Try.prog 6 sem6 := c6

theorem c44 : Contract Try.prog 44 sm44 :=
  contract_ofM (C := cf44) (fun f sem h => (Tab.nil : Tab _) _ (lk_mem' h)) (S := sg44) (fn := Try.f44) (c := bodyOf Try.f44) (ts := [2]) Try.func44 (by kernel_rfl) (by kernel_rfl) (by kernel_rfl) (by kernel_rfl) (by kernel_rfl) (by kernel_rfl) (by kernel_rfl) r44

theorem k44 : Contract Try.prog 44 sem44 := c44

theorem c33 : Contract Try.prog 33 sm33 :=
  contract_ofAM (C := cf33) (fun f sem h => (Tab.cons k43 (Tab.cons k44 (Tab.cons k23 (Tab.cons k17 (Tab.cons k29 (Tab.cons k15 (Tab.cons k9 Tab.nil)))))) : Tab _) _ (lk_mem' h)) (args := ag33) (alts := al33) (fn := Try.f33) (c := bodyOf Try.f33) (ts := [(4, some 24), (5, none)]) Try.func33 (by kernel_rfl) (by kernel_rfl) (by kernel_rfl) (by kernel_rfl) (by kernel_rfl) (by kernel_rfl) (by kernel_rfl) r33

theorem k33 : Contract Try.prog 33 sem33 := c33

theorem c45 : Contract Try.prog 45 sm45 :=
  contract_ofAM (C := cf45) (fun f sem h => (Tab.cons k19 Tab.nil : Tab _) _ (lk_mem' h)) (args := ag45) (alts := al45) (fn := Try.f45) (c := bodyOf Try.f45) (ts := [(2, some 28)]) Try.func45 (by kernel_rfl) (by kernel_rfl) (by kernel_rfl) (by kernel_rfl) (by kernel_rfl) (by kernel_rfl) (by kernel_rfl) r45

theorem k45 : Contract Try.prog 45 sem45 := c45

theorem c34 : Contract Try.prog 34 sm34 :=
  contract_ofAM (C := cf34) (fun f sem h => (Tab.cons k39 (Tab.cons k45 (Tab.cons k18 (Tab.cons k30 (Tab.cons k16 (Tab.cons k10 Tab.nil))))) : Tab _) _ (lk_mem' h)) (args := ag34) (alts := al34) (fn := Try.f34) (c := bodyOf Try.f34) (ts := [(4, some 28), (5, none)]) Try.func34 (by kernel_rfl) (by kernel_rfl) (by kernel_rfl) (by kernel_rfl) (by kernel_rfl) (by kernel_rfl) (by kernel_rfl) r34

theorem k34 : Contract Try.prog 34 sem34 := c34

theorem c46 : Contract Try.prog 46 sm46 :=
  contract_ofM (C := cf46) (fun f sem h => (Tab.nil : Tab _) _ (lk_mem' h)) (S := sg46) (fn := Try.f46) (c := bodyOf Try.f46) (ts := [2, 3]) Try.func46 (by kernel_rfl) (by kernel_rfl) (by kernel_rfl) (by kernel_rfl) (by kernel_rfl) (by kernel_rfl) (by kernel_rfl) r46

theorem k46 : Contract Try.prog 46 sem46 := c46

theorem c36 : Contract Try.prog 36 sm36 :=
  contract_ofM (C := cf36) (fun f sem h => (Tab.cons k32 (Tab.cons k45 (Tab.cons k18 (Tab.cons k46 Tab.nil))) : Tab _) _ (lk_mem' h)) (S := sg36) (fn := Try.f36) (c := bodyOf Try.f36) (ts := [4]) Try.func36 (by kernel_rfl) (by kernel_rfl) (by kernel_rfl) (by kernel_rfl) (by kernel_rfl) (by kernel_rfl) (by kernel_rfl) r36

theorem k36 : Contract Try.prog 36 sem36 := c36

theorem c7 : Contract Try.prog 7 sm7 :=
  contract_ofM (C := cf7) (fun f sem h => (Tab.cons k14 (Tab.cons k33 (Tab.cons k34 (Tab.cons k11 (Tab.cons k35 (Tab.cons k36 Tab.nil))))) : Tab _) _ (lk_mem' h)) (S := sg7) (fn := Try.f7) (c := bodyOf Try.f7) (ts := [6]) Try.func7 (by kernel_rfl) (by kernel_rfl) (by kernel_rfl) (by kernel_rfl) (by kernel_rfl) (by kernel_rfl) (by kernel_rfl) r7

theorem k7 : Contract Try.prog 7 sem7 := c7

theorem c8 : Contract Try.prog 8 sm8 :=
  contract_ofM (C := cf8) (fun f sem h => (Tab.cons k35 (Tab.cons k14 (Tab.cons k33 (Tab.cons k23 Tab.nil))) : Tab _) _ (lk_mem' h)) (S := sg8) (fn := Try.f8) (c := bodyOf Try.f8) (ts := [4]) Try.func8 (by kernel_rfl) (by kernel_rfl) (by kernel_rfl) (by kernel_rfl) (by kernel_rfl) (by kernel_rfl) (by kernel_rfl) r8

theorem k8 : Contract Try.prog 8 sem8 := c8

end Go.Proofs.Ytblhcabnmjanjaa
