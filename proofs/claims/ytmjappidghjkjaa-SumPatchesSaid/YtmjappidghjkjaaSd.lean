/- The laws SumSwaps and SumTotals and the document's answer, as plain functions. -/
import Derived.Test.YtmjappidghjkjaaSb
namespace Go.Proofs.Ytmjappidghjkjaa
open Go Go.Pv Go.Proofs
set_option maxRecDepth 100000

/-! ### SumSwaps -/
def orB (c v : Bool) : Bool := bif c then true else (bif !c then v else false)
def halfN (t : Bool) (n : Int) : Int := bif !t then IntKind.i64.wrap ((bif !t then n else 0).tdiv 2) else 0
noncomputable def swStep (b c : List Int) (from_ to : Int) : Option (List Int) := (rdI b from_).bind fun x => (Option.map (fun _ => to) (ckI to c.length)).bind fun j => stI c j x
noncomputable def swF (b : List Int) (i k : Int) : Option ((Bool × Unit) × Unit) :=
  let n : Int := b.length
  let t15 := orB (decide (n > 2000)) (decide (i < 0))
  let t19 := orB t15 (decide (k < 0))
  let t26 := orB t19 (decide (i ≥ halfN t19 n))
  let t33 := orB t26 (decide (k ≥ halfN t26 n))
  let i2 := IntKind.i64.wrap (2 * i)
  let k2 := IntKind.i64.wrap (2 * k)
  let i3 := IntKind.i64.wrap (i2 + 1)
  let k3 := IntKind.i64.wrap (k2 + 1)
  bif t33 then livesF.bind fun l => some ((l.1.1, ()), ()) else
  (roomI 1 [] b).bind fun c0 =>
  (rdI b k2).bind fun x1 => (Option.map (fun _ => i2) (ckI i2 c0.length)).bind fun j1 => (stI c0 j1 x1).bind fun c1 =>
  (rdI b i2).bind fun x2 => (Option.map (fun _ => k2) (ckI k2 c1.length)).bind fun j2 => (stI c1 j2 x2).bind fun c2 =>
  (rdI b k3).bind fun x3 => (Option.map (fun _ => i3) (ckI i3 c2.length)).bind fun j3 => (stI c2 j3 x3).bind fun c3 =>
  (rdI b i3).bind fun x4 => (Option.map (fun _ => k3) (ckI k3 c3.length)).bind fun j4 => (stI c3 j4 x4).bind fun c4 =>
  (roomI 1 [] b).bind fun m0 => (roomI 1 m0 [0]).bind fun m1 =>
  (ofF c4).bind fun s1 => (ofF b).bind fun s2 => 
  let t88 := decide (s1.1.1 = s2.1.1)
  guardR t88 (ofF m1) ((0, ()), ()) fun s3 => guardR t88 (ofF b) ((0, ()), ()) fun s4 =>
  let t95 := bif t88 then (bif t88 then decide (s3.1.1 = s4.1.1) else false) else false
  guardR t95 livesF ((false, ()), ()) fun l => some ((bif t95 then l.1.1 else false, ()), ())
noncomputable def sg4 : Sig := ⟨[.val (.slice u8), .val i64, .val i64], [.val .bool], []⟩
noncomputable def cf4 : Cfg := cf [(8, sem8), (11, sem11)] 98 0 []
theorem r4 (x : ArgT sg4.args) : runF cf4 sg4 (bodyOf Try.f4) [6] x = swF x.1 x.2.1 x.2.2.1 := by kernel_rfl
theorem c4 : Contract Try.prog 4 (mkSem sg4 fun x => swF x.1 x.2.1 x.2.2.1) :=
  contract_of (C := cf4) (fun f sem h => Tab.cons c8 (Tab.cons c11 Tab.nil) _ (lk_mem' h)) (S := sg4) (fn := Try.f4) (c := bodyOf Try.f4) (ts := [6]) Try.func4 (by kernel_rfl) (by kernel_rfl) (by kernel_rfl) (by kernel_rfl) (by kernel_rfl) (by kernel_rfl) (by kernel_rfl) r4

/-! ### Right -/
noncomputable def rightF (b : List Int) : Option ((Bool × Unit) × Unit) := (ofF b).bind fun r => some ((decide (r.1.1 = 0), ()), ())
noncomputable def sg14 : Sig := ⟨[.val (.slice u8)], [.val .bool], []⟩
noncomputable def sem14 : CSem := mkSem sg14 fun x => rightF x.1
theorem c14 : Contract Try.prog 14 sem14 :=
  contract_of (C := cf [(11, sem11)] 6 0 []) (fun f sem h => Tab.cons c11 Tab.nil _ (lk_mem' h)) (S := sg14) (fn := Try.f14) (c := bodyOf Try.f14) (ts := [2]) Try.func14 (by kernel_rfl) (by kernel_rfl) (by kernel_rfl) (by kernel_rfl) (by kernel_rfl) (by kernel_rfl) (by kernel_rfl) (fun x => by kernel_rfl)

/-! ### the document's words, total, sum -/
abbrev WoS := List Int × List Int × Int × Unit
noncomputable def woStep (b l : List Int) (i : Int) : Option ((WoS × Unit) ⊕ (List Int × Unit) × Unit) :=
  bif decide (i < (b.length : Int)) then
    bif decide (IntKind.i64.wrap (i + 1) < (b.length : Int)) then
      (rdI b (IntKind.i64.wrap (i + 1))).bind fun y => (rdI b i).bind fun x =>
        (roomI 8 l [IntKind.i64.wrap (IntKind.i64.wrap (256 * IntKind.i64.wrap x) + IntKind.i64.wrap y)]).bind fun l' => some (.inl ((b, l', IntKind.i64.wrap (i + 2), ()), ()))
    else (rdI b i).bind fun x => (roomI 8 l [IntKind.i64.wrap (IntKind.i64.wrap (256 * IntKind.i64.wrap x) + 0)]).bind fun l' => some (.inl ((b, l', IntKind.i64.wrap (i + 2), ()), ()))
  else some (.inr ((l, ()), ()))
noncomputable def woF (b : List Int) : Option ((List Int × Unit) × Unit) := loopR (fun (z : WoS × Unit) => woStep z.1.1 z.1.2.1 z.1.2.2.1) ((b, [], 0, ()), ())
noncomputable def sg22 : Sig := ⟨[.val (.slice u8)], [.own (.own i64)], []⟩
noncomputable def sem22 : CSem := mkSem sg22 fun x => woF x.1
noncomputable def cf22 : Cfg := cf [] 35 0 [(0, ⟨[(0, .dat (.slice u8)), (3, .own i64 false), (4, .dat i64)], []⟩)]
theorem r22 (x : ArgT sg22.args) : runF cf22 sg22 (bodyOf Try.f22) [2] x = woF x.1 := by kernel_rfl
theorem c22 : Contract Try.prog 22 sem22 :=
  contract_of (C := cf22) (fun f sem h => Tab.nil _ (lk_mem' h)) (S := sg22) (fn := Try.f22) (c := bodyOf Try.f22) (ts := [2]) Try.func22 (by kernel_rfl) (by kernel_rfl) (by kernel_rfl) (by kernel_rfl) (by kernel_rfl) (by kernel_rfl) (by kernel_rfl) r22

noncomputable def to2Step (n : Int) : Option (((Int × Unit) × Unit) ⊕ (Int × Unit) × Unit) :=
  bif decide (n > 65535) then some (.inl ((IntKind.i64.wrap (IntKind.i64.wrap (n.tdiv 65536) + n.tmod 65536), ()), ())) else some (.inr ((n, ()), ()))
noncomputable def to2F (n : Int) : Option ((Int × Unit) × Unit) := loopR (fun (z : (Int × Unit) × Unit) => to2Step z.1.1) ((n, ()), ())
abbrev ToS := List Int × Int × Int × Unit
noncomputable def toStep (l : List Int) (n i : Int) : Option ((ToS × Unit) ⊕ (Int × Unit) × Unit) :=
  bif decide (i < (l.length : Int)) then (rdI l i).bind fun x => some (.inl ((l, IntKind.i64.wrap (n + x), IntKind.i64.wrap (i + 1), ()), ()))
  else (to2F n).map .inr
noncomputable def toF (l : List Int) : Option ((Int × Unit) × Unit) := loopR (fun (z : ToS × Unit) => toStep z.1.1 z.1.2.1 z.1.2.2.1) ((l, 0, 0, ()), ())
noncomputable def sg16 : Sig := ⟨[.val (.slice i64)], [.val i64], []⟩
noncomputable def sem16 : CSem := mkSem sg16 fun x => toF x.1
noncomputable def cf16 : Cfg := cf [] 25 0 [(0, ⟨[(0, .dat (.slice i64)), (3, .dat i64), (4, .dat i64)], []⟩), (2, ⟨[(3, .dat i64)], []⟩)]
theorem r16 (x : ArgT sg16.args) : runF cf16 sg16 (bodyOf Try.f16) [2] x = toF x.1 := by kernel_rfl
theorem c16 : Contract Try.prog 16 sem16 :=
  contract_of (C := cf16) (fun f sem h => Tab.nil _ (lk_mem' h)) (S := sg16) (fn := Try.f16) (c := bodyOf Try.f16) (ts := [2]) Try.func16 (by kernel_rfl) (by kernel_rfl) (by kernel_rfl) (by kernel_rfl) (by kernel_rfl) (by kernel_rfl) (by kernel_rfl) r16

noncomputable def rsF (b : List Int) : Option ((Int × Unit) × Unit) := (woF b).bind fun l => (toF l.1.1).bind fun t => some ((IntKind.i64.wrap (65535 - t.1.1), ()), ())
noncomputable def sg13 : Sig := ⟨[.val (.slice u8)], [.val i64], []⟩
noncomputable def sem13 : CSem := mkSem sg13 fun x => rsF x.1
theorem c13 : Contract Try.prog 13 sem13 :=
  contract_of (C := cf [(22, sem22), (16, sem16)] 7 0 []) (fun f sem h => Tab.cons c22 (Tab.cons c16 Tab.nil) _ (lk_mem' h)) (S := sg13) (fn := Try.f13) (c := bodyOf Try.f13) (ts := [2]) Try.func13 (by kernel_rfl) (by kernel_rfl) (by kernel_rfl) (by kernel_rfl) (by kernel_rfl) (by kernel_rfl) (by kernel_rfl) (fun x => by kernel_rfl)

/-! ### SumTotals -/
def andB (c v : Bool) : Bool := bif c then (bif c then v else false) else false
noncomputable def ttF (b : List Int) : Option ((Bool × Unit) × Unit) :=
  bif decide ((b.length : Int) > 20000) then livesF.bind fun l => some ((l.1.1, ()), ()) else
  (addF (0, false, ()) b).bind fun a => (rsF b).bind fun w =>
  let want := w.1.1
  let t18 := decide (IntKind.i64.wrap (IntKind.u16.wrap a.2.1.1) = IntKind.i64.wrap (65535 - want))
  let s := IntKind.u16.wrap (65535 - IntKind.u16.wrap a.2.1.1)
  let t24 := bif t18 then (bif t18 then decide ((bif t18 then IntKind.i64.wrap (bif t18 then (((s, ()), (a.2.1, ())) : (Int × Unit) × (AdT × Unit)) else ((0, ()), ((0, false, ()), ()))).1.1 else 0) = want) else false) else false
  guardR t24 (ofF b) ((0, ()), ()) fun o =>
  let t31 := bif t24 then (bif t24 then decide ((bif t24 then IntKind.i64.wrap o.1.1 else 0) = want) else false) else false
  guardR t31 (rightF b) ((false, ()), ()) fun r =>
  let t38 := bif t31 then decide (r.1.1 = (bif t31 then decide (want = 0) else false)) else false
  guardR t38 livesF ((false, ()), ()) fun l => some ((bif t38 then l.1.1 else false, ()), ())
noncomputable def sg5 : Sig := ⟨[.val (.slice u8)], [.val .bool], []⟩
noncomputable def cf5 : Cfg := cf [(8, sem8), (9, sem9), (10, sem10), (11, sem11), (12, sem12), (13, sem13), (14, sem14)] 41 0 []
theorem r5 (x : ArgT sg5.args) : runF cf5 sg5 (bodyOf Try.f5) [2] x = ttF x.1 := by kernel_rfl
theorem c5 : Contract Try.prog 5 (mkSem sg5 fun x => ttF x.1) :=
  contract_of (C := cf5) (fun f sem h => Tab.cons c8 (Tab.cons c9 (Tab.cons c10 (Tab.cons c11 (Tab.cons c12 (Tab.cons c13 (Tab.cons c14 Tab.nil)))))) _ (lk_mem' h)) (S := sg5) (fn := Try.f5) (c := bodyOf Try.f5) (ts := [2]) Try.func5 (by kernel_rfl) (by kernel_rfl) (by kernel_rfl) (by kernel_rfl) (by kernel_rfl) (by kernel_rfl) (by kernel_rfl) r5

end Go.Proofs.Ytmjappidghjkjaa
