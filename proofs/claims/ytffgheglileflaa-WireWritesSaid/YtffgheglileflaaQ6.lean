/- The functions that the statements reach as plain Lean, and what they compute. -/
import Derived.Test.YtffgheglileflaaQ5

namespace Go.L
open Go Go.Pv
set_option maxRecDepth 100000

def getAlt0 {a : Type} {b : Type} : a ⊕ b → Option a := fun x => match x with | .inl y => some y | .inr _ => none
def getAlt1 {a : Type} {b : Type} {c : Type} : a ⊕ (b ⊕ c) → Option b := fun x => match x with | .inl _ => none | .inr y => (fun x => match x with | .inl y => some y | .inr _ => none) y
def getAlt2 {a : Type} {b : Type} {c : Type} {d : Type} : a ⊕ (b ⊕ (c ⊕ d)) → Option c := fun x => match x with | .inl _ => none | .inr y => (fun x => match x with | .inl _ => none | .inr y => (fun x => match x with | .inl y => some y | .inr _ => none) y) y
def getAlt3 {a : Type} {b : Type} {c : Type} {d : Type} {e : Type} : a ⊕ (b ⊕ (c ⊕ (d ⊕ e))) → Option d := fun x => match x with | .inl _ => none | .inr y => (fun x => match x with | .inl _ => none | .inr y => (fun x => match x with | .inl _ => none | .inr y => (fun x => match x with | .inl y => some y | .inr _ => none) y) y) y
def getAlt4 {a : Type} {b : Type} {c : Type} {d : Type} {e : Type} {f : Type} : a ⊕ (b ⊕ (c ⊕ (d ⊕ (e ⊕ f)))) → Option e := fun x => match x with | .inl _ => none | .inr y => (fun x => match x with | .inl _ => none | .inr y => (fun x => match x with | .inl _ => none | .inr y => (fun x => match x with | .inl _ => none | .inr y => (fun x => match x with | .inl y => some y | .inr _ => none) y) y) y) y
def getAlt5 {a : Type} {b : Type} {c : Type} {d : Type} {e : Type} {f : Type} {g : Type} : a ⊕ (b ⊕ (c ⊕ (d ⊕ (e ⊕ (f ⊕ g))))) → Option f := fun x => match x with | .inl _ => none | .inr y => (fun x => match x with | .inl _ => none | .inr y => (fun x => match x with | .inl _ => none | .inr y => (fun x => match x with | .inl _ => none | .inr y => (fun x => match x with | .inl _ => none | .inr y => (fun x => match x with | .inl y => some y | .inr _ => none) y) y) y) y) y
def getAlt6 {a : Type} {b : Type} {c : Type} {d : Type} {e : Type} {f : Type} {g : Type} {h : Type} : a ⊕ (b ⊕ (c ⊕ (d ⊕ (e ⊕ (f ⊕ (g ⊕ h)))))) → Option g := fun x => match x with | .inl _ => none | .inr y => (fun x => match x with | .inl _ => none | .inr y => (fun x => match x with | .inl _ => none | .inr y => (fun x => match x with | .inl _ => none | .inr y => (fun x => match x with | .inl _ => none | .inr y => (fun x => match x with | .inl _ => none | .inr y => (fun x => match x with | .inl y => some y | .inr _ => none) y) y) y) y) y) y
def getAlt7 {a : Type} {b : Type} {c : Type} {d : Type} {e : Type} {f : Type} {g : Type} {h : Type} {i : Type} : a ⊕ (b ⊕ (c ⊕ (d ⊕ (e ⊕ (f ⊕ (g ⊕ (h ⊕ i))))))) → Option h := fun x => match x with | .inl _ => none | .inr y => (fun x => match x with | .inl _ => none | .inr y => (fun x => match x with | .inl _ => none | .inr y => (fun x => match x with | .inl _ => none | .inr y => (fun x => match x with | .inl _ => none | .inr y => (fun x => match x with | .inl _ => none | .inr y => (fun x => match x with | .inl _ => none | .inr y => (fun x => match x with | .inl y => some y | .inr _ => none) y) y) y) y) y) y) y
def isNil1 {a : Type} : a ⊕ (Unit) → Bool := fun x => match x with | .inl _ => false | .inr y => (fun _ => true) y
def isNil2 {a : Type} {b : Type} : a ⊕ (b ⊕ (Unit)) → Bool := fun x => match x with | .inl _ => false | .inr y => (fun x => match x with | .inl _ => false | .inr y => (fun _ => true) y) y
def isNil3 {a : Type} {b : Type} {c : Type} : a ⊕ (b ⊕ (c ⊕ (Unit))) → Bool := fun x => match x with | .inl _ => false | .inr y => (fun x => match x with | .inl _ => false | .inr y => (fun x => match x with | .inl _ => false | .inr y => (fun _ => true) y) y) y
def isNil4 {a : Type} {b : Type} {c : Type} {d : Type} : a ⊕ (b ⊕ (c ⊕ (d ⊕ (Unit)))) → Bool := fun x => match x with | .inl _ => false | .inr y => (fun x => match x with | .inl _ => false | .inr y => (fun x => match x with | .inl _ => false | .inr y => (fun x => match x with | .inl _ => false | .inr y => (fun _ => true) y) y) y) y
def isNil5 {a : Type} {b : Type} {c : Type} {d : Type} {e : Type} : a ⊕ (b ⊕ (c ⊕ (d ⊕ (e ⊕ (Unit))))) → Bool := fun x => match x with | .inl _ => false | .inr y => (fun x => match x with | .inl _ => false | .inr y => (fun x => match x with | .inl _ => false | .inr y => (fun x => match x with | .inl _ => false | .inr y => (fun x => match x with | .inl _ => false | .inr y => (fun _ => true) y) y) y) y) y
def isNil6 {a : Type} {b : Type} {c : Type} {d : Type} {e : Type} {f : Type} : a ⊕ (b ⊕ (c ⊕ (d ⊕ (e ⊕ (f ⊕ (Unit)))))) → Bool := fun x => match x with | .inl _ => false | .inr y => (fun x => match x with | .inl _ => false | .inr y => (fun x => match x with | .inl _ => false | .inr y => (fun x => match x with | .inl _ => false | .inr y => (fun x => match x with | .inl _ => false | .inr y => (fun x => match x with | .inl _ => false | .inr y => (fun _ => true) y) y) y) y) y) y
def isNil7 {a : Type} {b : Type} {c : Type} {d : Type} {e : Type} {f : Type} {g : Type} : a ⊕ (b ⊕ (c ⊕ (d ⊕ (e ⊕ (f ⊕ (g ⊕ (Unit))))))) → Bool := fun x => match x with | .inl _ => false | .inr y => (fun x => match x with | .inl _ => false | .inr y => (fun x => match x with | .inl _ => false | .inr y => (fun x => match x with | .inl _ => false | .inr y => (fun x => match x with | .inl _ => false | .inr y => (fun x => match x with | .inl _ => false | .inr y => (fun x => match x with | .inl _ => false | .inr y => (fun _ => true) y) y) y) y) y) y) y
def isNil8 {a : Type} {b : Type} {c : Type} {d : Type} {e : Type} {f : Type} {g : Type} {h : Type} : a ⊕ (b ⊕ (c ⊕ (d ⊕ (e ⊕ (f ⊕ (g ⊕ (h ⊕ (Unit)))))))) → Bool := fun x => match x with | .inl _ => false | .inr y => (fun x => match x with | .inl _ => false | .inr y => (fun x => match x with | .inl _ => false | .inr y => (fun x => match x with | .inl _ => false | .inr y => (fun x => match x with | .inl _ => false | .inr y => (fun x => match x with | .inl _ => false | .inr y => (fun x => match x with | .inl _ => false | .inr y => (fun x => match x with | .inl _ => false | .inr y => (fun _ => true) y) y) y) y) y) y) y) y

/-! ### 37: math/bits.Add64 -/
noncomputable abbrev bits_Add64 := add64F

/-! ### 38: math/bits.Sub64 -/
noncomputable abbrev bits_Sub64 := sub64F

/-! ### math/bits.Len64 -/
noncomputable def bits_Len64 (x_0 : Int) : Option ((Int × Unit) × (Unit)) :=
  bif (decide (x_0 ≥ 4294967296)) then
    let t6_2 : Int := x_0.fdiv (2 ^ 32)
    bif (decide (t6_2 ≥ 65536)) then
      let t10_4 : Int := t6_2.fdiv (2 ^ 16)
      let t12_5 : Int := IntKind.i64.wrap (32 + 16)
      bif (decide (t10_4 ≥ 256)) then
        (rdI [0, 1, 2, 2, 3, 3, 3, 3, 4, 4, 4, 4, 4, 4, 4, 4, 5, 5, 5, 5, 5, 5, 5, 5, 5, 5, 5, 5, 5, 5, 5, 5, 6, 6, 6, 6, 6, 6, 6, 6, 6, 6, 6, 6, 6, 6, 6, 6, 6, 6, 6, 6, 6, 6, 6, 6, 6, 6, 6, 6, 6, 6, 6, 6, 7, 7, 7, 7, 7, 7, 7, 7, 7, 7, 7, 7, 7, 7, 7, 7, 7, 7, 7, 7, 7, 7, 7, 7, 7, 7, 7, 7, 7, 7, 7, 7, 7, 7, 7, 7, 7, 7, 7, 7, 7, 7, 7, 7, 7, 7, 7, 7, 7, 7, 7, 7, 7, 7, 7, 7, 7, 7, 7, 7, 7, 7, 7, 7, 8, 8, 8, 8, 8, 8, 8, 8, 8, 8, 8, 8, 8, 8, 8, 8, 8, 8, 8, 8, 8, 8, 8, 8, 8, 8, 8, 8, 8, 8, 8, 8, 8, 8, 8, 8, 8, 8, 8, 8, 8, 8, 8, 8, 8, 8, 8, 8, 8, 8, 8, 8, 8, 8, 8, 8, 8, 8, 8, 8, 8, 8, 8, 8, 8, 8, 8, 8, 8, 8, 8, 8, 8, 8, 8, 8, 8, 8, 8, 8, 8, 8, 8, 8, 8, 8, 8, 8, 8, 8, 8, 8, 8, 8, 8, 8, 8, 8, 8, 8, 8, 8, 8, 8, 8, 8, 8, 8, 8, 8, 8, 8, 8, 8, 8, 8, 8, 8, 8, 8, 8, 8, 8, 8, 8, 8, 8, 8] (IntKind.u8.wrap (t10_4.fdiv (2 ^ 8)))).bind fun v_10 =>
        some (((IntKind.i64.wrap ((IntKind.i64.wrap (t12_5 + 8)) + (IntKind.i64.wrap v_10))), ()), ())
      else
      (rdI [0, 1, 2, 2, 3, 3, 3, 3, 4, 4, 4, 4, 4, 4, 4, 4, 5, 5, 5, 5, 5, 5, 5, 5, 5, 5, 5, 5, 5, 5, 5, 5, 6, 6, 6, 6, 6, 6, 6, 6, 6, 6, 6, 6, 6, 6, 6, 6, 6, 6, 6, 6, 6, 6, 6, 6, 6, 6, 6, 6, 6, 6, 6, 6, 7, 7, 7, 7, 7, 7, 7, 7, 7, 7, 7, 7, 7, 7, 7, 7, 7, 7, 7, 7, 7, 7, 7, 7, 7, 7, 7, 7, 7, 7, 7, 7, 7, 7, 7, 7, 7, 7, 7, 7, 7, 7, 7, 7, 7, 7, 7, 7, 7, 7, 7, 7, 7, 7, 7, 7, 7, 7, 7, 7, 7, 7, 7, 7, 8, 8, 8, 8, 8, 8, 8, 8, 8, 8, 8, 8, 8, 8, 8, 8, 8, 8, 8, 8, 8, 8, 8, 8, 8, 8, 8, 8, 8, 8, 8, 8, 8, 8, 8, 8, 8, 8, 8, 8, 8, 8, 8, 8, 8, 8, 8, 8, 8, 8, 8, 8, 8, 8, 8, 8, 8, 8, 8, 8, 8, 8, 8, 8, 8, 8, 8, 8, 8, 8, 8, 8, 8, 8, 8, 8, 8, 8, 8, 8, 8, 8, 8, 8, 8, 8, 8, 8, 8, 8, 8, 8, 8, 8, 8, 8, 8, 8, 8, 8, 8, 8, 8, 8, 8, 8, 8, 8, 8, 8, 8, 8, 8, 8, 8, 8, 8, 8, 8, 8, 8, 8, 8, 8, 8, 8, 8, 8] (IntKind.u8.wrap t10_4)).bind fun v_14 =>
      some (((IntKind.i64.wrap (t12_5 + (IntKind.i64.wrap v_14))), ()), ())
    else
    bif (decide (t6_2 ≥ 256)) then
      (rdI [0, 1, 2, 2, 3, 3, 3, 3, 4, 4, 4, 4, 4, 4, 4, 4, 5, 5, 5, 5, 5, 5, 5, 5, 5, 5, 5, 5, 5, 5, 5, 5, 6, 6, 6, 6, 6, 6, 6, 6, 6, 6, 6, 6, 6, 6, 6, 6, 6, 6, 6, 6, 6, 6, 6, 6, 6, 6, 6, 6, 6, 6, 6, 6, 7, 7, 7, 7, 7, 7, 7, 7, 7, 7, 7, 7, 7, 7, 7, 7, 7, 7, 7, 7, 7, 7, 7, 7, 7, 7, 7, 7, 7, 7, 7, 7, 7, 7, 7, 7, 7, 7, 7, 7, 7, 7, 7, 7, 7, 7, 7, 7, 7, 7, 7, 7, 7, 7, 7, 7, 7, 7, 7, 7, 7, 7, 7, 7, 8, 8, 8, 8, 8, 8, 8, 8, 8, 8, 8, 8, 8, 8, 8, 8, 8, 8, 8, 8, 8, 8, 8, 8, 8, 8, 8, 8, 8, 8, 8, 8, 8, 8, 8, 8, 8, 8, 8, 8, 8, 8, 8, 8, 8, 8, 8, 8, 8, 8, 8, 8, 8, 8, 8, 8, 8, 8, 8, 8, 8, 8, 8, 8, 8, 8, 8, 8, 8, 8, 8, 8, 8, 8, 8, 8, 8, 8, 8, 8, 8, 8, 8, 8, 8, 8, 8, 8, 8, 8, 8, 8, 8, 8, 8, 8, 8, 8, 8, 8, 8, 8, 8, 8, 8, 8, 8, 8, 8, 8, 8, 8, 8, 8, 8, 8, 8, 8, 8, 8, 8, 8, 8, 8, 8, 8, 8, 8] (IntKind.u8.wrap (t6_2.fdiv (2 ^ 8)))).bind fun v_21 =>
      some (((IntKind.i64.wrap ((IntKind.i64.wrap (32 + 8)) + (IntKind.i64.wrap v_21))), ()), ())
    else
    (rdI [0, 1, 2, 2, 3, 3, 3, 3, 4, 4, 4, 4, 4, 4, 4, 4, 5, 5, 5, 5, 5, 5, 5, 5, 5, 5, 5, 5, 5, 5, 5, 5, 6, 6, 6, 6, 6, 6, 6, 6, 6, 6, 6, 6, 6, 6, 6, 6, 6, 6, 6, 6, 6, 6, 6, 6, 6, 6, 6, 6, 6, 6, 6, 6, 7, 7, 7, 7, 7, 7, 7, 7, 7, 7, 7, 7, 7, 7, 7, 7, 7, 7, 7, 7, 7, 7, 7, 7, 7, 7, 7, 7, 7, 7, 7, 7, 7, 7, 7, 7, 7, 7, 7, 7, 7, 7, 7, 7, 7, 7, 7, 7, 7, 7, 7, 7, 7, 7, 7, 7, 7, 7, 7, 7, 7, 7, 7, 7, 8, 8, 8, 8, 8, 8, 8, 8, 8, 8, 8, 8, 8, 8, 8, 8, 8, 8, 8, 8, 8, 8, 8, 8, 8, 8, 8, 8, 8, 8, 8, 8, 8, 8, 8, 8, 8, 8, 8, 8, 8, 8, 8, 8, 8, 8, 8, 8, 8, 8, 8, 8, 8, 8, 8, 8, 8, 8, 8, 8, 8, 8, 8, 8, 8, 8, 8, 8, 8, 8, 8, 8, 8, 8, 8, 8, 8, 8, 8, 8, 8, 8, 8, 8, 8, 8, 8, 8, 8, 8, 8, 8, 8, 8, 8, 8, 8, 8, 8, 8, 8, 8, 8, 8, 8, 8, 8, 8, 8, 8, 8, 8, 8, 8, 8, 8, 8, 8, 8, 8, 8, 8, 8, 8, 8, 8, 8, 8] (IntKind.u8.wrap t6_2)).bind fun v_25 =>
    some (((IntKind.i64.wrap (32 + (IntKind.i64.wrap v_25))), ()), ())
  else
  bif (decide (x_0 ≥ 65536)) then
    let t10_29 : Int := x_0.fdiv (2 ^ 16)
    let t12_30 : Int := IntKind.i64.wrap (0 + 16)
    bif (decide (t10_29 ≥ 256)) then
      (rdI [0, 1, 2, 2, 3, 3, 3, 3, 4, 4, 4, 4, 4, 4, 4, 4, 5, 5, 5, 5, 5, 5, 5, 5, 5, 5, 5, 5, 5, 5, 5, 5, 6, 6, 6, 6, 6, 6, 6, 6, 6, 6, 6, 6, 6, 6, 6, 6, 6, 6, 6, 6, 6, 6, 6, 6, 6, 6, 6, 6, 6, 6, 6, 6, 7, 7, 7, 7, 7, 7, 7, 7, 7, 7, 7, 7, 7, 7, 7, 7, 7, 7, 7, 7, 7, 7, 7, 7, 7, 7, 7, 7, 7, 7, 7, 7, 7, 7, 7, 7, 7, 7, 7, 7, 7, 7, 7, 7, 7, 7, 7, 7, 7, 7, 7, 7, 7, 7, 7, 7, 7, 7, 7, 7, 7, 7, 7, 7, 8, 8, 8, 8, 8, 8, 8, 8, 8, 8, 8, 8, 8, 8, 8, 8, 8, 8, 8, 8, 8, 8, 8, 8, 8, 8, 8, 8, 8, 8, 8, 8, 8, 8, 8, 8, 8, 8, 8, 8, 8, 8, 8, 8, 8, 8, 8, 8, 8, 8, 8, 8, 8, 8, 8, 8, 8, 8, 8, 8, 8, 8, 8, 8, 8, 8, 8, 8, 8, 8, 8, 8, 8, 8, 8, 8, 8, 8, 8, 8, 8, 8, 8, 8, 8, 8, 8, 8, 8, 8, 8, 8, 8, 8, 8, 8, 8, 8, 8, 8, 8, 8, 8, 8, 8, 8, 8, 8, 8, 8, 8, 8, 8, 8, 8, 8, 8, 8, 8, 8, 8, 8, 8, 8, 8, 8, 8, 8] (IntKind.u8.wrap (t10_29.fdiv (2 ^ 8)))).bind fun v_35 =>
      some (((IntKind.i64.wrap ((IntKind.i64.wrap (t12_30 + 8)) + (IntKind.i64.wrap v_35))), ()), ())
    else
    (rdI [0, 1, 2, 2, 3, 3, 3, 3, 4, 4, 4, 4, 4, 4, 4, 4, 5, 5, 5, 5, 5, 5, 5, 5, 5, 5, 5, 5, 5, 5, 5, 5, 6, 6, 6, 6, 6, 6, 6, 6, 6, 6, 6, 6, 6, 6, 6, 6, 6, 6, 6, 6, 6, 6, 6, 6, 6, 6, 6, 6, 6, 6, 6, 6, 7, 7, 7, 7, 7, 7, 7, 7, 7, 7, 7, 7, 7, 7, 7, 7, 7, 7, 7, 7, 7, 7, 7, 7, 7, 7, 7, 7, 7, 7, 7, 7, 7, 7, 7, 7, 7, 7, 7, 7, 7, 7, 7, 7, 7, 7, 7, 7, 7, 7, 7, 7, 7, 7, 7, 7, 7, 7, 7, 7, 7, 7, 7, 7, 8, 8, 8, 8, 8, 8, 8, 8, 8, 8, 8, 8, 8, 8, 8, 8, 8, 8, 8, 8, 8, 8, 8, 8, 8, 8, 8, 8, 8, 8, 8, 8, 8, 8, 8, 8, 8, 8, 8, 8, 8, 8, 8, 8, 8, 8, 8, 8, 8, 8, 8, 8, 8, 8, 8, 8, 8, 8, 8, 8, 8, 8, 8, 8, 8, 8, 8, 8, 8, 8, 8, 8, 8, 8, 8, 8, 8, 8, 8, 8, 8, 8, 8, 8, 8, 8, 8, 8, 8, 8, 8, 8, 8, 8, 8, 8, 8, 8, 8, 8, 8, 8, 8, 8, 8, 8, 8, 8, 8, 8, 8, 8, 8, 8, 8, 8, 8, 8, 8, 8, 8, 8, 8, 8, 8, 8, 8, 8] (IntKind.u8.wrap t10_29)).bind fun v_39 =>
    some (((IntKind.i64.wrap (t12_30 + (IntKind.i64.wrap v_39))), ()), ())
  else
  bif (decide (x_0 ≥ 256)) then
    (rdI [0, 1, 2, 2, 3, 3, 3, 3, 4, 4, 4, 4, 4, 4, 4, 4, 5, 5, 5, 5, 5, 5, 5, 5, 5, 5, 5, 5, 5, 5, 5, 5, 6, 6, 6, 6, 6, 6, 6, 6, 6, 6, 6, 6, 6, 6, 6, 6, 6, 6, 6, 6, 6, 6, 6, 6, 6, 6, 6, 6, 6, 6, 6, 6, 7, 7, 7, 7, 7, 7, 7, 7, 7, 7, 7, 7, 7, 7, 7, 7, 7, 7, 7, 7, 7, 7, 7, 7, 7, 7, 7, 7, 7, 7, 7, 7, 7, 7, 7, 7, 7, 7, 7, 7, 7, 7, 7, 7, 7, 7, 7, 7, 7, 7, 7, 7, 7, 7, 7, 7, 7, 7, 7, 7, 7, 7, 7, 7, 8, 8, 8, 8, 8, 8, 8, 8, 8, 8, 8, 8, 8, 8, 8, 8, 8, 8, 8, 8, 8, 8, 8, 8, 8, 8, 8, 8, 8, 8, 8, 8, 8, 8, 8, 8, 8, 8, 8, 8, 8, 8, 8, 8, 8, 8, 8, 8, 8, 8, 8, 8, 8, 8, 8, 8, 8, 8, 8, 8, 8, 8, 8, 8, 8, 8, 8, 8, 8, 8, 8, 8, 8, 8, 8, 8, 8, 8, 8, 8, 8, 8, 8, 8, 8, 8, 8, 8, 8, 8, 8, 8, 8, 8, 8, 8, 8, 8, 8, 8, 8, 8, 8, 8, 8, 8, 8, 8, 8, 8, 8, 8, 8, 8, 8, 8, 8, 8, 8, 8, 8, 8, 8, 8, 8, 8, 8, 8] (IntKind.u8.wrap (x_0.fdiv (2 ^ 8)))).bind fun v_46 =>
    some (((IntKind.i64.wrap ((IntKind.i64.wrap (0 + 8)) + (IntKind.i64.wrap v_46))), ()), ())
  else
  (rdI [0, 1, 2, 2, 3, 3, 3, 3, 4, 4, 4, 4, 4, 4, 4, 4, 5, 5, 5, 5, 5, 5, 5, 5, 5, 5, 5, 5, 5, 5, 5, 5, 6, 6, 6, 6, 6, 6, 6, 6, 6, 6, 6, 6, 6, 6, 6, 6, 6, 6, 6, 6, 6, 6, 6, 6, 6, 6, 6, 6, 6, 6, 6, 6, 7, 7, 7, 7, 7, 7, 7, 7, 7, 7, 7, 7, 7, 7, 7, 7, 7, 7, 7, 7, 7, 7, 7, 7, 7, 7, 7, 7, 7, 7, 7, 7, 7, 7, 7, 7, 7, 7, 7, 7, 7, 7, 7, 7, 7, 7, 7, 7, 7, 7, 7, 7, 7, 7, 7, 7, 7, 7, 7, 7, 7, 7, 7, 7, 8, 8, 8, 8, 8, 8, 8, 8, 8, 8, 8, 8, 8, 8, 8, 8, 8, 8, 8, 8, 8, 8, 8, 8, 8, 8, 8, 8, 8, 8, 8, 8, 8, 8, 8, 8, 8, 8, 8, 8, 8, 8, 8, 8, 8, 8, 8, 8, 8, 8, 8, 8, 8, 8, 8, 8, 8, 8, 8, 8, 8, 8, 8, 8, 8, 8, 8, 8, 8, 8, 8, 8, 8, 8, 8, 8, 8, 8, 8, 8, 8, 8, 8, 8, 8, 8, 8, 8, 8, 8, 8, 8, 8, 8, 8, 8, 8, 8, 8, 8, 8, 8, 8, 8, 8, 8, 8, 8, 8, 8, 8, 8, 8, 8, 8, 8, 8, 8, 8, 8, 8, 8, 8, 8, 8, 8, 8, 8] (IntKind.u8.wrap x_0)).bind fun v_50 =>
  some (((IntKind.i64.wrap (0 + (IntKind.i64.wrap v_50))), ()), ())

/-! ### math/bits.LeadingZeros64 -/
noncomputable def bits_LeadingZeros64 (x_0 : Int) : Option ((Int × Unit) × (Unit)) :=
  (bits_Len64 x_0).bind fun r_1 =>
  some (((IntKind.i64.wrap (64 - r_1.1.1)), ()), ())

/-! ### math/bits.Div64 -/
noncomputable def bits_Div64_s2 (y_2_2 : Int) (s_8_2 : Int) (yn1_9_2 : Int) (yn0_10_2 : Int) (un0_14_2 : Int) (q1_15_2 : Int) (rhat_16_2 : Int) (un21_17_2 : Int) (q0_18_2 : Int) : Option (((Int × Int × Int × Int × Int × Int × Int × Int × Int × Unit) × (Unit)) ⊕ ((Int × Int × Unit) × (Unit))) :=
  let t103_37 : Bool := decide (q0_18_2 ≥ 4294967296)
  guardR (!t103_37) (some ()) () fun _ =>
  guardR (!t103_37) (some ()) () fun _ =>
  guardR (!t103_37) (some (IntKind.u64.wrap (q0_18_2 * yn0_10_2))) 0 fun v_38 =>
  guardR (!t103_37) (some ()) () fun _ =>
  guardR (!t103_37) (some (IntKind.u64.wrap (4294967296 * rhat_16_2))) 0 fun v_39 =>
  guardR (!t103_37) (some ()) () fun _ =>
  guardR (!t103_37) (some (IntKind.u64.wrap (v_39 + un0_14_2))) 0 fun v_40 =>
  guardR (!t103_37) (some (decide (v_38 > v_40))) false fun v_41 =>
  bif (bif t103_37 then true else v_41) then
    let t115_43 : Int := IntKind.u64.wrap (q0_18_2 - 1)
    let t118_44 : Int := IntKind.u64.wrap (rhat_16_2 + yn1_9_2)
    bif (decide (t118_44 ≥ 4294967296)) then
      ((shrI .u64 (IntKind.u64.wrap ((IntKind.u64.wrap ((IntKind.u64.wrap (un21_17_2 * 4294967296)) + un0_14_2)) - (IntKind.u64.wrap (t115_43 * y_2_2)))) s_8_2).bind fun v_52 =>
      some (((IntKind.u64.wrap ((IntKind.u64.wrap (q1_15_2 * 4294967296)) + t115_43)), v_52, ()), ())).map .inr
    else
    some (.inl ((y_2_2, s_8_2, yn1_9_2, yn0_10_2, un0_14_2, q1_15_2, t118_44, un21_17_2, t115_43, ()), ()))
  else
  ((shrI .u64 (IntKind.u64.wrap ((IntKind.u64.wrap ((IntKind.u64.wrap (un21_17_2 * 4294967296)) + un0_14_2)) - (IntKind.u64.wrap (q0_18_2 * y_2_2)))) s_8_2).bind fun v_59 =>
  some (((IntKind.u64.wrap ((IntKind.u64.wrap (q1_15_2 * 4294967296)) + q0_18_2)), v_59, ()), ())).map .inr
noncomputable def bits_Div64_s0 (y_2_0 : Int) (s_8_0 : Int) (yn1_9_0 : Int) (yn0_10_0 : Int) (un32_11_0 : Int) (un1_13_0 : Int) (un0_14_0 : Int) (q1_15_0 : Int) (rhat_16_0 : Int) : Option (((Int × Int × Int × Int × Int × Int × Int × Int × Int × Unit) × (Unit)) ⊕ ((Int × Int × Unit) × (Unit))) :=
  let t68_21 : Bool := decide (q1_15_0 ≥ 4294967296)
  guardR (!t68_21) (some ()) () fun _ =>
  guardR (!t68_21) (some ()) () fun _ =>
  guardR (!t68_21) (some (IntKind.u64.wrap (q1_15_0 * yn0_10_0))) 0 fun v_22 =>
  guardR (!t68_21) (some ()) () fun _ =>
  guardR (!t68_21) (some (IntKind.u64.wrap (4294967296 * rhat_16_0))) 0 fun v_23 =>
  guardR (!t68_21) (some ()) () fun _ =>
  guardR (!t68_21) (some (IntKind.u64.wrap (v_23 + un1_13_0))) 0 fun v_24 =>
  guardR (!t68_21) (some (decide (v_22 > v_24))) false fun v_25 =>
  bif (bif t68_21 then true else v_25) then
    let t80_27 : Int := IntKind.u64.wrap (q1_15_0 - 1)
    let t83_28 : Int := IntKind.u64.wrap (rhat_16_0 + yn1_9_0)
    bif (decide (t83_28 ≥ 4294967296)) then
      let t93_33 : Int := IntKind.u64.wrap ((IntKind.u64.wrap ((IntKind.u64.wrap (un32_11_0 * 4294967296)) + un1_13_0)) - (IntKind.u64.wrap (t80_27 * y_2_0)))
      ((quoI .u64 t93_33 yn1_9_0).bind fun v_34 =>
      loopR (fun (z : (Int × Int × Int × Int × Int × Int × Int × Int × Int × Unit) × (Unit)) => bits_Div64_s2 z.1.1 z.1.2.1 z.1.2.2.1 z.1.2.2.2.1 z.1.2.2.2.2.1 z.1.2.2.2.2.2.1 z.1.2.2.2.2.2.2.1 z.1.2.2.2.2.2.2.2.1 z.1.2.2.2.2.2.2.2.2.1) ((y_2_0, s_8_0, yn1_9_0, yn0_10_0, un0_14_0, t80_27, (IntKind.u64.wrap (t93_33 - (IntKind.u64.wrap (v_34 * yn1_9_0)))), t93_33, v_34, ()), ())).map .inr
    else
    some (.inl ((y_2_0, s_8_0, yn1_9_0, yn0_10_0, un32_11_0, un1_13_0, un0_14_0, t80_27, t83_28, ()), ()))
  else
  let t93_63 : Int := IntKind.u64.wrap ((IntKind.u64.wrap ((IntKind.u64.wrap (un32_11_0 * 4294967296)) + un1_13_0)) - (IntKind.u64.wrap (q1_15_0 * y_2_0)))
  ((quoI .u64 t93_63 yn1_9_0).bind fun v_64 =>
  loopR (fun (z : (Int × Int × Int × Int × Int × Int × Int × Int × Int × Unit) × (Unit)) => bits_Div64_s2 z.1.1 z.1.2.1 z.1.2.2.1 z.1.2.2.2.1 z.1.2.2.2.2.1 z.1.2.2.2.2.2.1 z.1.2.2.2.2.2.2.1 z.1.2.2.2.2.2.2.2.1 z.1.2.2.2.2.2.2.2.2.1) ((y_2_0, s_8_0, yn1_9_0, yn0_10_0, un0_14_0, q1_15_0, (IntKind.u64.wrap (t93_63 - (IntKind.u64.wrap (v_64 * yn1_9_0)))), t93_63, v_64, ()), ())).map .inr
noncomputable def bits_Div64 (hi_0 : Int) (lo_1 : Int) (y_2 : Int) : Option ((Int × Int × Unit) × (Unit)) :=
  bif (decide (y_2 = 0)) then
    none
  else
  bif (decide (y_2 ≤ hi_0)) then
    none
  else
  bif (decide (hi_0 = 0)) then
    (quoI .u64 lo_1 y_2).bind fun v_4 =>
    (remI lo_1 y_2).bind fun v_5 =>
    some ((v_4, v_5, ()), ())
  else
  (bits_LeadingZeros64 y_2).bind fun r_6 =>
  let t36_7 : Int := IntKind.u64.wrap r_6.1.1
  (shlI .u64 y_2 t36_7).bind fun v_8 =>
  let t41_9 : Int := v_8.fdiv (2 ^ 32)
  (shlI .u64 hi_0 t36_7).bind fun v_11 =>
  (shrI .u64 lo_1 (IntKind.u64.wrap (64 - t36_7))).bind fun v_13 =>
  let t51_14 : Int := bitsI .or .u64 v_11 v_13
  (shlI .u64 lo_1 t36_7).bind fun v_15 =>
  (quoI .u64 t51_14 t41_9).bind fun v_18 =>
  loopR (fun (z : (Int × Int × Int × Int × Int × Int × Int × Int × Int × Unit) × (Unit)) => bits_Div64_s0 z.1.1 z.1.2.1 z.1.2.2.1 z.1.2.2.2.1 z.1.2.2.2.2.1 z.1.2.2.2.2.2.1 z.1.2.2.2.2.2.2.1 z.1.2.2.2.2.2.2.2.1 z.1.2.2.2.2.2.2.2.2.1) ((v_8, t36_7, t41_9, (bitsI .and .u64 v_8 4294967295), t51_14, (v_15.fdiv (2 ^ 32)), (bitsI .and .u64 v_15 4294967295), v_18, (IntKind.u64.wrap (t51_14 - (IntKind.u64.wrap (v_18 * t41_9)))), ()), ())

/-! ### math/bits.Mul64 -/
noncomputable def bits_Mul64 (x_0 : Int) (y_1 : Int) : Option ((Int × Int × Unit) × (Unit)) :=
  let t15_1 : Int := bitsI .and .u64 x_0 4294967295
  let t17_2 : Int := x_0.fdiv (2 ^ 32)
  let t19_3 : Int := bitsI .and .u64 y_1 4294967295
  let t21_4 : Int := y_1.fdiv (2 ^ 32)
  let t30_8 : Int := IntKind.u64.wrap ((IntKind.u64.wrap (t17_2 * t19_3)) + ((IntKind.u64.wrap (t15_1 * t19_3)).fdiv (2 ^ 32)))
  some (((IntKind.u64.wrap ((IntKind.u64.wrap ((IntKind.u64.wrap (t17_2 * t21_4)) + (t30_8.fdiv (2 ^ 32)))) + ((IntKind.u64.wrap ((bitsI .and .u64 t30_8 4294967295) + (IntKind.u64.wrap (t15_1 * t21_4)))).fdiv (2 ^ 32)))), (IntKind.u64.wrap (x_0 * y_1)), ()), ())

/-! ### bytes.Clone -/
noncomputable def bytes_Clone (b_0 : List Int) : Option (((List Int) × Unit) × (Unit)) :=
  bif b_0.isEmpty then
    amb (some (([], ()), ()))
    ((roomI 1 ([] : List Int) b_0).bind fun v_1 =>
      some ((v_1, ()), ()))
  else
  (roomI 1 ([] : List Int) b_0).bind fun v_2 =>
  some ((v_2, ()), ())

/-! ### slices.Clip[[]byte,byte] -/
noncomputable def slices_Clip_byte_byte (s_0 : List Int) : Option (((List Int) × Unit) × (Unit)) :=
  let t5_1 : Int := (s_0.length : Int)
  (if (s_0.length : Int) = t5_1 then subL s_0 0 t5_1 else none).bind fun v_3 =>
  some ((v_3, ()), ())

end Go.L

namespace Go.L
open Go Go.Pv
set_option maxRecDepth 100000

/-! ### shunter/word.Add -/
noncomputable def word_Add (a_0 : Int × Int × Unit) (b_1 : Int × Int × Unit) : Option (((Int × Int × Unit) × Bool × Unit) × (Unit)) :=
  (bits_Add64 a_0.2.1 b_1.2.1 0).bind fun r_1 =>
  (bits_Add64 a_0.1 b_1.1 r_1.1.2.1).bind fun r_2 =>
  some (((r_2.1.1, r_1.1.1, ()), (decide (r_2.1.2.1 > 0)), ()), ())

/-! ### shunter/shunterref01.Of -/
noncomputable def ref01_Of_s0 (hi_0_0 : Int) (lo_1_0 : Int) (i_6_0 : Int) (p4_0_0 : List Bool) (p5_0_0 : List Bool) : Option (((Int × Int × Int × Unit) × ((List Bool) × (List Bool) × Unit)) ⊕ (((List Bool) × Unit) × (Unit))) :=
  bif (decide (i_6_0 < 64)) then
    (Option.map (fun _ => i_6_0) (ckI i_6_0 128)).bind fun v_4 =>
    (stI p5_0_0 v_4 (decide ((lo_1_0.tmod 2) = 1))).bind fun v_5 =>
    let t17_6 : Int := IntKind.i64.wrap (i_6_0 + 64)
    (Option.map (fun _ => t17_6) (ckI t17_6 128)).bind fun v_9 =>
    (stI v_5 v_9 (decide ((hi_0_0.tmod 2) = 1))).bind fun v_10 =>
    some (.inl (((IntKind.u64.wrap (hi_0_0.tdiv 2)), (IntKind.u64.wrap (lo_1_0.tdiv 2)), (IntKind.i64.wrap (i_6_0 + 1)), ()), p4_0_0, v_10, ()))
  else
  some (.inr ((p5_0_0, ()), ()))
noncomputable def ref01_Of (hi_0 : Int) (lo_1 : Int) : Option (((List Bool) × Unit) × (Unit)) :=
  loopR (fun (z : (Int × Int × Int × Unit) × ((List Bool) × (List Bool) × Unit)) => ref01_Of_s0 z.1.1 z.1.2.1 z.1.2.2.1 z.2.1 z.2.2.1) ((hi_0, lo_1, 0, ()), List.replicate 128 false, List.replicate 128 false, ())

/-! ### shunter/shunterref01.Sum -/
noncomputable def ref01_Sum_s0 (carry_2_0 : Bool) (i_9_0 : Int) (p3_0_0 : List Bool) (p4_0_0 : List Bool) (p6_0_0 : List Bool) (p8_0_0 : List Bool) : Option (((Bool × Int × Unit) × ((List Bool) × (List Bool) × (List Bool) × (List Bool) × Unit)) ⊕ (((List Bool) × Bool × Unit) × (Unit))) :=
  bif (decide (i_9_0 < 128)) then
    (Option.map (fun _ => i_9_0) (ckI i_9_0 128)).bind fun v_2 =>
    (rdI p3_0_0 v_2).bind fun v_3 =>
    bif v_3 then
      let t19_4 : Int := IntKind.i64.wrap (0 + 1)
      (Option.map (fun _ => i_9_0) (ckI i_9_0 128)).bind fun v_5 =>
      (rdI p4_0_0 v_5).bind fun v_6 =>
      bif v_6 then
        let t24_7 : Int := IntKind.i64.wrap (t19_4 + 1)
        bif carry_2_0 then
          let t27_8 : Int := IntKind.i64.wrap (t24_7 + 1)
          (Option.map (fun _ => i_9_0) (ckI i_9_0 128)).bind fun v_11 =>
          (stI p8_0_0 v_11 (decide ((t27_8.tmod 2) = 1))).bind fun v_12 =>
          some (.inl (((decide (t27_8 ≥ 2)), (IntKind.i64.wrap (i_9_0 + 1)), ()), p3_0_0, p4_0_0, p6_0_0, v_12, ()))
        else
        (Option.map (fun _ => i_9_0) (ckI i_9_0 128)).bind fun v_17 =>
        (stI p8_0_0 v_17 (decide ((t24_7.tmod 2) = 1))).bind fun v_18 =>
        some (.inl (((decide (t24_7 ≥ 2)), (IntKind.i64.wrap (i_9_0 + 1)), ()), p3_0_0, p4_0_0, p6_0_0, v_18, ()))
      else
      bif carry_2_0 then
        let t27_21 : Int := IntKind.i64.wrap (t19_4 + 1)
        (Option.map (fun _ => i_9_0) (ckI i_9_0 128)).bind fun v_24 =>
        (stI p8_0_0 v_24 (decide ((t27_21.tmod 2) = 1))).bind fun v_25 =>
        some (.inl (((decide (t27_21 ≥ 2)), (IntKind.i64.wrap (i_9_0 + 1)), ()), p3_0_0, p4_0_0, p6_0_0, v_25, ()))
      else
      (Option.map (fun _ => i_9_0) (ckI i_9_0 128)).bind fun v_30 =>
      (stI p8_0_0 v_30 (decide ((t19_4.tmod 2) = 1))).bind fun v_31 =>
      some (.inl (((decide (t19_4 ≥ 2)), (IntKind.i64.wrap (i_9_0 + 1)), ()), p3_0_0, p4_0_0, p6_0_0, v_31, ()))
    else
    (Option.map (fun _ => i_9_0) (ckI i_9_0 128)).bind fun v_34 =>
    (rdI p4_0_0 v_34).bind fun v_35 =>
    bif v_35 then
      let t24_36 : Int := IntKind.i64.wrap (0 + 1)
      bif carry_2_0 then
        let t27_37 : Int := IntKind.i64.wrap (t24_36 + 1)
        (Option.map (fun _ => i_9_0) (ckI i_9_0 128)).bind fun v_40 =>
        (stI p8_0_0 v_40 (decide ((t27_37.tmod 2) = 1))).bind fun v_41 =>
        some (.inl (((decide (t27_37 ≥ 2)), (IntKind.i64.wrap (i_9_0 + 1)), ()), p3_0_0, p4_0_0, p6_0_0, v_41, ()))
      else
      (Option.map (fun _ => i_9_0) (ckI i_9_0 128)).bind fun v_46 =>
      (stI p8_0_0 v_46 (decide ((t24_36.tmod 2) = 1))).bind fun v_47 =>
      some (.inl (((decide (t24_36 ≥ 2)), (IntKind.i64.wrap (i_9_0 + 1)), ()), p3_0_0, p4_0_0, p6_0_0, v_47, ()))
    else
    bif carry_2_0 then
      let t27_50 : Int := IntKind.i64.wrap (0 + 1)
      (Option.map (fun _ => i_9_0) (ckI i_9_0 128)).bind fun v_53 =>
      (stI p8_0_0 v_53 (decide ((t27_50.tmod 2) = 1))).bind fun v_54 =>
      some (.inl (((decide (t27_50 ≥ 2)), (IntKind.i64.wrap (i_9_0 + 1)), ()), p3_0_0, p4_0_0, p6_0_0, v_54, ()))
    else
    (Option.map (fun _ => i_9_0) (ckI i_9_0 128)).bind fun v_59 =>
    (stI p8_0_0 v_59 (decide (((0 : Int).tmod 2) = 1))).bind fun v_60 =>
    some (.inl (((decide ((0 : Int) ≥ 2)), (IntKind.i64.wrap (i_9_0 + 1)), ()), p3_0_0, p4_0_0, p6_0_0, v_60, ()))
  else
  some (.inr ((p8_0_0, carry_2_0, ()), ()))
noncomputable def ref01_Sum (a_0 : List Bool) (b_1 : List Bool) (carry_2 : Bool) : Option (((List Bool) × Bool × Unit) × (Unit)) :=
  loopR (fun (z : (Bool × Int × Unit) × ((List Bool) × (List Bool) × (List Bool) × (List Bool) × Unit)) => ref01_Sum_s0 z.1.1 z.1.2.1 z.2.1 z.2.2.1 z.2.2.2.1 z.2.2.2.2.1) ((carry_2, 0, ()), a_0, b_1, List.replicate 128 false, List.replicate 128 false, ())

/-! ### shunter/word.Sub -/
noncomputable def word_Sub (a_0 : Int × Int × Unit) (b_1 : Int × Int × Unit) : Option (((Int × Int × Unit) × Bool × Unit) × (Unit)) :=
  (bits_Sub64 a_0.2.1 b_1.2.1 0).bind fun r_1 =>
  (bits_Sub64 a_0.1 b_1.1 r_1.1.2.1).bind fun r_2 =>
  some (((r_2.1.1, r_1.1.1, ()), (decide (r_2.1.2.1 > 0)), ()), ())

/-! ### shunter/shunterref01.Turned -/
noncomputable def ref01_Turned_s0 (i_4_0 : Int) (p1_0_0 : List Bool) (p2_0_0 : List Bool) (p3_0_0 : List Bool) : Option (((Int × Unit) × ((List Bool) × (List Bool) × (List Bool) × Unit)) ⊕ (((List Bool) × Unit) × (Unit))) :=
  bif (decide (i_4_0 < 128)) then
    (Option.map (fun _ => i_4_0) (ckI i_4_0 128)).bind fun v_2 =>
    (rdI p1_0_0 v_2).bind fun v_3 =>
    (Option.map (fun _ => i_4_0) (ckI i_4_0 128)).bind fun v_4 =>
    (stI p3_0_0 v_4 (!v_3)).bind fun v_5 =>
    some (.inl (((IntKind.i64.wrap (i_4_0 + 1)), ()), p1_0_0, p2_0_0, v_5, ()))
  else
  some (.inr ((p3_0_0, ()), ()))
noncomputable def ref01_Turned (a_0 : List Bool) : Option (((List Bool) × Unit) × (Unit)) :=
  loopR (fun (z : (Int × Unit) × ((List Bool) × (List Bool) × (List Bool) × Unit)) => ref01_Turned_s0 z.1.1 z.2.1 z.2.2.1 z.2.2.2.1) ((0, ()), a_0, List.replicate 128 false, List.replicate 128 false, ())

/-! ### shunter/shunterref01.Less -/
noncomputable def ref01_Less_s0 (i_5_0 : Int) (p2_0_0 : List Bool) (p3_0_0 : List Bool) : Option (((Int × Unit) × ((List Bool) × (List Bool) × Unit)) ⊕ ((Bool × Unit) × (Unit))) :=
  bif (decide (i_5_0 ≥ 0)) then
    (Option.map (fun _ => i_5_0) (ckI i_5_0 128)).bind fun v_2 =>
    (rdI p2_0_0 v_2).bind fun v_3 =>
    (Option.map (fun _ => i_5_0) (ckI i_5_0 128)).bind fun v_4 =>
    (rdI p3_0_0 v_4).bind fun v_5 =>
    bif (!(decide (v_3 = v_5))) then
      (Option.map (fun _ => i_5_0) (ckI i_5_0 128)).bind fun v_7 =>
      (rdI p3_0_0 v_7).bind fun v_8 =>
      some (.inr ((v_8, ()), ()))
    else
    some (.inl (((IntKind.i64.wrap (i_5_0 - 1)), ()), p2_0_0, p3_0_0, ()))
  else
  some (.inr ((false, ()), ()))
noncomputable def ref01_Less (a_0 : List Bool) (b_1 : List Bool) : Option ((Bool × Unit) × (Unit)) :=
  loopR (fun (z : (Int × Unit) × ((List Bool) × (List Bool) × Unit)) => ref01_Less_s0 z.1.1 z.2.1 z.2.2.1) ((127, ()), a_0, b_1, ())

/-! ### shunter/shunterref01.Minus -/
noncomputable def ref01_Minus (a_0 : List Bool) (b_1 : List Bool) : Option (((List Bool) × Bool × Unit) × (Unit)) :=
  (ref01_Turned b_1).bind fun r_1 =>
  (ref01_Sum a_0 r_1.1.1 true).bind fun r_2 =>
  (ref01_Less a_0 b_1).bind fun r_3 =>
  some ((r_2.1.1, r_3.1.1, ()), ())

/-! ### shunter/word.based -/
noncomputable def word_based (base_0 : Int) : Option ((Bool × Unit) × (Unit)) :=
  let t4_1 : Bool := decide (base_0 ≥ 2)
  guardR t4_1 (some ()) () fun _ =>
  guardR t4_1 (some (decide (base_0 ≤ 16))) false fun v_2 =>
  some (((bif t4_1 then v_2 else false), ()), ())

/-! ### shunter/word.Div -/
noncomputable def word_Div (a_0 : Int × Int × Unit) (d_1 : Int) : Option (((Int × Int × Unit) × Int × Bool × Unit) × (Unit)) :=
  bif (decide (d_1 = 0)) then
    some (((0, 0, ()), 0, false, ()), ())
  else
  (quoI .u64 a_0.1 d_1).bind fun v_2 =>
  (remI a_0.1 d_1).bind fun v_3 =>
  (bits_Div64 v_3 a_0.2.1 d_1).bind fun r_4 =>
  some (((v_2, r_4.1.1, ()), r_4.1.2.1, true, ()), ())

/-! ### shunter/word.Text -/
noncomputable def word_Text_s2 (b_5_2 : List Int) (t37_37_2 : Int) (t38_38_2 : Int) : Option ((((List Int) × Int × Int × Unit) × (Unit)) ⊕ (((List Int) × Unit) × (Unit))) :=
  bif (decide (t38_38_2 < t37_37_2)) then
    let t48_15 : Int := IntKind.i64.wrap ((IntKind.i64.wrap ((b_5_2.length : Int) - 1)) - t38_38_2)
    let t54_18 : Int := IntKind.i64.wrap ((IntKind.i64.wrap ((b_5_2.length : Int) - 1)) - t38_38_2)
    (Option.map (fun _ => t54_18) (ckI t54_18 b_5_2.length)).bind fun v_19 =>
    (rdI b_5_2 v_19).bind fun v_20 =>
    (Option.map (fun _ => t38_38_2) (ckI t38_38_2 b_5_2.length)).bind fun v_21 =>
    (rdI b_5_2 v_21).bind fun v_22 =>
    (Option.map (fun _ => t38_38_2) (ckI t38_38_2 b_5_2.length)).bind fun v_23 =>
    (stI b_5_2 v_23 v_20).bind fun v_24 =>
    (Option.map (fun _ => t48_15) (ckI t48_15 v_24.length)).bind fun v_25 =>
    (stI v_24 v_25 v_22).bind fun v_26 =>
    some (.inl ((v_26, t37_37_2, (IntKind.i64.wrap (t38_38_2 + 1)), ()), ()))
  else
  some (.inr ((b_5_2, ()), ()))
noncomputable def word_Text_s0 (base_1_0 : Int) (b_5_0 : List Int) (p2_0_0 : Int × Int × Unit) : Option (((Int × (List Int) × Unit) × ((Int × Int × Unit) × Unit)) ⊕ (((List Int) × Unit) × (Unit))) :=
  let t15_2 : Bool := !(decide (p2_0_0.1 = 0) && decide (p2_0_0.2.1 = 0))
  guardR (!t15_2) (some ()) () fun _ =>
  guardR (!t15_2) (some (b_5_0.length : Int)) 0 fun v_3 =>
  guardR (!t15_2) (some (decide (v_3 = 0))) false fun v_4 =>
  bif (bif t15_2 then true else v_4) then
    (word_Div (p2_0_0.1, p2_0_0.2.1, ()) (IntKind.u64.wrap base_1_0)).bind fun r_7 =>
    (rdI [48, 49, 50, 51, 52, 53, 54, 55, 56, 57, 97, 98, 99, 100, 101, 102] r_7.1.2.1).bind fun v_8 =>
    (roomI 1 b_5_0 [v_8]).bind fun v_9 =>
    some (.inl ((base_1_0, v_9, ()), r_7.1.1, ()))
  else
  (loopR (fun (z : ((List Int) × Int × Int × Unit) × (Unit)) => word_Text_s2 z.1.1 z.1.2.1 z.1.2.2.1) ((b_5_0, (IntKind.i64.wrap ((b_5_0.length : Int).tdiv 2)), 0, ()), ())).map .inr
noncomputable def word_Text (a_0 : Int × Int × Unit) (base_1 : Int) : Option (((List Int) × Unit) × (Unit)) :=
  (word_based base_1).bind fun r_1 =>
  bif !r_1.1.1 then
    some (([], ()), ())
  else
  loopR (fun (z : (Int × (List Int) × Unit) × ((Int × Int × Unit) × Unit)) => word_Text_s0 z.1.1 z.1.2.1 z.2.1) ((base_1, [], ()), (a_0.1, a_0.2.1, ()), ())

/-! ### shunter/word.Mul -/
noncomputable def word_Mul (a_0 : Int × Int × Unit) (b_1 : Int × Int × Unit) : Option (((Int × Int × Unit) × Unit) × (Unit)) :=
  (bits_Mul64 a_0.2.1 b_1.2.1).bind fun r_1 =>
  some ((((IntKind.u64.wrap ((IntKind.u64.wrap (r_1.1.1 + (IntKind.u64.wrap (a_0.1 * b_1.2.1)))) + (IntKind.u64.wrap (a_0.2.1 * b_1.1)))), r_1.1.2.1, ()), ()), ())

/-! ### shunter/shunterref01.Moved -/
noncomputable def ref01_Moved_s0 (n_1_0 : Int) (i_6_0 : Int) (p2_0_0 : List Bool) (p4_0_0 : List Bool) (p5_0_0 : List Bool) : Option (((Int × Int × Unit) × ((List Bool) × (List Bool) × (List Bool) × Unit)) ⊕ (((List Bool) × Unit) × (Unit))) :=
  bif (decide (i_6_0 < 128)) then
    let t12_2 : Bool := decide (n_1_0 > (-128))
    guardR t12_2 (some ()) () fun _ =>
    guardR t12_2 (some (decide (n_1_0 < 128))) false fun v_3 =>
    let t16_4 : Bool := bif t12_2 then v_3 else false
    guardR t16_4 (some ()) () fun _ =>
    guardR t16_4 (some ()) () fun _ =>
    guardR t16_4 (some (IntKind.i64.wrap (i_6_0 - n_1_0))) 0 fun v_5 =>
    guardR t16_4 (some (decide (v_5 ≥ 0))) false fun v_6 =>
    let t22_7 : Bool := bif t16_4 then v_6 else false
    guardR t22_7 (some ()) () fun _ =>
    guardR t22_7 (some ()) () fun _ =>
    guardR t22_7 (some (IntKind.i64.wrap (i_6_0 - n_1_0))) 0 fun v_8 =>
    guardR t22_7 (some (decide (v_8 < 128))) false fun v_9 =>
    bif (bif t22_7 then v_9 else false) then
      let t32_11 : Int := IntKind.i64.wrap (i_6_0 - n_1_0)
      (Option.map (fun _ => t32_11) (ckI t32_11 128)).bind fun v_12 =>
      (rdI p2_0_0 v_12).bind fun v_13 =>
      (Option.map (fun _ => i_6_0) (ckI i_6_0 128)).bind fun v_14 =>
      (stI p5_0_0 v_14 v_13).bind fun v_15 =>
      some (.inl ((n_1_0, (IntKind.i64.wrap (i_6_0 + 1)), ()), p2_0_0, p4_0_0, v_15, ()))
    else
    some (.inl ((n_1_0, (IntKind.i64.wrap (i_6_0 + 1)), ()), p2_0_0, p4_0_0, p5_0_0, ()))
  else
  some (.inr ((p5_0_0, ()), ()))
noncomputable def ref01_Moved (a_0 : List Bool) (n_1 : Int) : Option (((List Bool) × Unit) × (Unit)) :=
  loopR (fun (z : (Int × Int × Unit) × ((List Bool) × (List Bool) × (List Bool) × Unit)) => ref01_Moved_s0 z.1.1 z.1.2.1 z.2.1 z.2.2.1 z.2.2.2.1) ((n_1, 0, ()), a_0, List.replicate 128 false, List.replicate 128 false, ())

/-! ### shunter/shunterref01.Product -/
noncomputable def ref01_Product_s0 (i_6_0 : Int) (p2_0_0 : List Bool) (p3_0_0 : List Bool) (p4_0_0 : List Bool) (p5_0_0 : List Bool) : Option (((Int × Unit) × ((List Bool) × (List Bool) × (List Bool) × (List Bool) × Unit)) ⊕ (((List Bool) × Unit) × (Unit))) :=
  bif (decide (i_6_0 < 128)) then
    (Option.map (fun _ => i_6_0) (ckI i_6_0 128)).bind fun v_2 =>
    (rdI p3_0_0 v_2).bind fun v_3 =>
    bif v_3 then
      (ref01_Moved p2_0_0 i_6_0).bind fun r_4 =>
      (ref01_Sum p5_0_0 r_4.1.1 false).bind fun r_5 =>
      some (.inl (((IntKind.i64.wrap (i_6_0 + 1)), ()), p2_0_0, p3_0_0, p4_0_0, r_5.1.1, ()))
    else
    some (.inl (((IntKind.i64.wrap (i_6_0 + 1)), ()), p2_0_0, p3_0_0, p4_0_0, p5_0_0, ()))
  else
  some (.inr ((p5_0_0, ()), ()))
noncomputable def ref01_Product (a_0 : List Bool) (b_1 : List Bool) : Option (((List Bool) × Unit) × (Unit)) :=
  loopR (fun (z : (Int × Unit) × ((List Bool) × (List Bool) × (List Bool) × (List Bool) × Unit)) => ref01_Product_s0 z.1.1 z.2.1 z.2.2.1 z.2.2.2.1 z.2.2.2.2.1) ((0, ()), a_0, b_1, List.replicate 128 false, List.replicate 128 false, ())

/-! ### shunter/shunterref01.Part -/
noncomputable def ref01_Part_s0 (i_8_0 : Int) (p2_0_0 : List Bool) (p3_0_0 : List Bool) (p4_0_0 : List Bool) (p5_0_0 : List Bool) (p6_0_0 : List Bool) (p7_0_0 : List Bool) : Option (((Int × Unit) × ((List Bool) × (List Bool) × (List Bool) × (List Bool) × (List Bool) × (List Bool) × Unit)) ⊕ (((List Bool) × (List Bool) × Unit) × (Unit))) :=
  bif (decide (i_8_0 ≥ 0)) then
    (Option.map (fun _ => 127) (ckI 127 128)).bind fun v_2 =>
    (rdI p7_0_0 v_2).bind fun v_3 =>
    (ref01_Moved p7_0_0 1).bind fun r_4 =>
    (Option.map (fun _ => i_8_0) (ckI i_8_0 128)).bind fun v_5 =>
    (rdI p2_0_0 v_5).bind fun v_6 =>
    (Option.map (fun _ => 0) (ckI 0 128)).bind fun v_7 =>
    (stI r_4.1.1 v_7 v_6).bind fun v_8 =>
    guardR (!v_3) (some v_8) (List.replicate 128 false) fun v_9 =>
    guardR (!v_3) (some p3_0_0) (List.replicate 128 false) fun v_10 =>
    guardR (!v_3) (ref01_Less v_9 v_10) ((false, ()), ()) fun r_11 =>
    guardR (!v_3) (some ()) () fun _ =>
    bif (bif v_3 then true else !r_11.1.1) then
      (ref01_Minus v_8 p3_0_0).bind fun r_13 =>
      (Option.map (fun _ => i_8_0) (ckI i_8_0 128)).bind fun v_14 =>
      (stI p6_0_0 v_14 true).bind fun v_15 =>
      some (.inl (((IntKind.i64.wrap (i_8_0 - 1)), ()), p2_0_0, p3_0_0, p4_0_0, p5_0_0, v_15, r_13.1.1, ()))
    else
    some (.inl (((IntKind.i64.wrap (i_8_0 - 1)), ()), p2_0_0, p3_0_0, p4_0_0, p5_0_0, p6_0_0, v_8, ()))
  else
  some (.inr ((p6_0_0, p7_0_0, ()), ()))
noncomputable def ref01_Part (a_0 : List Bool) (d_1 : List Bool) : Option (((List Bool) × (List Bool) × Unit) × (Unit)) :=
  loopR (fun (z : (Int × Unit) × ((List Bool) × (List Bool) × (List Bool) × (List Bool) × (List Bool) × (List Bool) × Unit)) => ref01_Part_s0 z.1.1 z.2.1 z.2.2.1 z.2.2.2.1 z.2.2.2.2.1 z.2.2.2.2.2.1 z.2.2.2.2.2.2.1) ((127, ()), a_0, d_1, List.replicate 128 false, List.replicate 128 false, List.replicate 128 false, List.replicate 128 false, ())

/-! ### shunter/word.And -/
noncomputable def word_And (a_0 : Int × Int × Unit) (b_1 : Int × Int × Unit) : Option (((Int × Int × Unit) × Unit) × (Unit)) :=
  some ((((bitsI .and .u64 a_0.1 b_1.1), (bitsI .and .u64 a_0.2.1 b_1.2.1), ()), ()), ())

/-! ### shunter/word.Or -/
noncomputable def word_Or (a_0 : Int × Int × Unit) (b_1 : Int × Int × Unit) : Option (((Int × Int × Unit) × Unit) × (Unit)) :=
  some ((((bitsI .or .u64 a_0.1 b_1.1), (bitsI .or .u64 a_0.2.1 b_1.2.1), ()), ()), ())

/-! ### shunter/word.Xor -/
noncomputable def word_Xor (a_0 : Int × Int × Unit) (b_1 : Int × Int × Unit) : Option (((Int × Int × Unit) × Unit) × (Unit)) :=
  some ((((bitsI .xor .u64 a_0.1 b_1.1), (bitsI .xor .u64 a_0.2.1 b_1.2.1), ()), ()), ())

/-! ### shunter/word.Not -/
noncomputable def word_Not (a_0 : Int × Int × Unit) : Option (((Int × Int × Unit) × Unit) × (Unit)) :=
  some ((((bitsI .xor .u64 IntKind.u64.max a_0.1), (bitsI .xor .u64 IntKind.u64.max a_0.2.1), ()), ()), ())

/-! ### functions that call each other -/
/-! ### shunter/word.Shl -/
noncomputable def word_Shl_g (word_Shl : (Int × Int × Unit) → Int → Option (((Int × Int × Unit) × Unit) × (Unit))) (word_Shr : (Int × Int × Unit) → Int → Option (((Int × Int × Unit) × Unit) × (Unit))) (a_0 : Int × Int × Unit) (n_1 : Int) : Option (((Int × Int × Unit) × Unit) × (Unit)) :=
  let t7_1 : Bool := decide (n_1 ≤ (-128))
  guardR (!t7_1) (some ()) () fun _ =>
  guardR (!t7_1) (some (decide (n_1 ≥ 128))) false fun v_2 =>
  bif (bif t7_1 then true else v_2) then
    some (((0, 0, ()), ()), ())
  else
  bif (decide (n_1 < 0)) then
    (word_Shr (a_0.1, a_0.2.1, ()) (IntKind.i64.wrap (0 - n_1))).bind fun r_6 =>
    some ((r_6.1.1, ()), ())
  else
  bif (decide (n_1 = 0)) then
    some (((a_0.1, a_0.2.1, ()), ()), ())
  else
  bif (decide (n_1 ≥ 64)) then
    (shlI .u64 a_0.2.1 (IntKind.i64.wrap (n_1 - 64))).bind fun v_10 =>
    some (((v_10, 0, ()), ()), ())
  else
  (shlI .u64 a_0.1 n_1).bind fun v_11 =>
  (shrI .u64 a_0.2.1 (IntKind.i64.wrap (64 - n_1))).bind fun v_13 =>
  (shlI .u64 a_0.2.1 n_1).bind fun v_15 =>
  some ((((bitsI .or .u64 v_11 v_13), v_15, ()), ()), ())
/-! ### shunter/word.Shr -/
noncomputable def word_Shr_g (word_Shl : (Int × Int × Unit) → Int → Option (((Int × Int × Unit) × Unit) × (Unit))) (word_Shr : (Int × Int × Unit) → Int → Option (((Int × Int × Unit) × Unit) × (Unit))) (a_0 : Int × Int × Unit) (n_1 : Int) : Option (((Int × Int × Unit) × Unit) × (Unit)) :=
  let t7_1 : Bool := decide (n_1 ≤ (-128))
  guardR (!t7_1) (some ()) () fun _ =>
  guardR (!t7_1) (some (decide (n_1 ≥ 128))) false fun v_2 =>
  bif (bif t7_1 then true else v_2) then
    some (((0, 0, ()), ()), ())
  else
  bif (decide (n_1 < 0)) then
    (word_Shl (a_0.1, a_0.2.1, ()) (IntKind.i64.wrap (0 - n_1))).bind fun r_6 =>
    some ((r_6.1.1, ()), ())
  else
  bif (decide (n_1 = 0)) then
    some (((a_0.1, a_0.2.1, ()), ()), ())
  else
  bif (decide (n_1 ≥ 64)) then
    (shrI .u64 a_0.1 (IntKind.i64.wrap (n_1 - 64))).bind fun v_10 =>
    some (((0, v_10, ()), ()), ())
  else
  (shrI .u64 a_0.1 n_1).bind fun v_11 =>
  (shrI .u64 a_0.2.1 n_1).bind fun v_12 =>
  (shlI .u64 a_0.1 (IntKind.i64.wrap (64 - n_1))).bind fun v_14 =>
  some (((v_11, (bitsI .or .u64 v_12 v_14), ()), ()), ())
noncomputable def word_Shr_lv : Nat → ((Int × Int × Unit) → Int → Option (((Int × Int × Unit) × Unit) × (Unit))) × ((Int × Int × Unit) → Int → Option (((Int × Int × Unit) × Unit) × (Unit)))
  | 0 => (fun _ _ => none, fun _ _ => none)
  | k + 1 => (word_Shl_g ((word_Shr_lv k).1) ((word_Shr_lv k).2), word_Shr_g ((word_Shr_lv k).1) ((word_Shr_lv k).2))
noncomputable def word_Shl : (Int × Int × Unit) → Int → Option (((Int × Int × Unit) × Unit) × (Unit)) := (word_Shr_lv 3).1
noncomputable def word_Shr : (Int × Int × Unit) → Int → Option (((Int × Int × Unit) × Unit) × (Unit)) := (word_Shr_lv 3).2

/-! ### shunter/word.Ones -/
noncomputable def word_Ones (n_0 : Int) : Option (((Int × Int × Unit) × Unit) × (Unit)) :=
  bif (decide (n_0 ≤ 0)) then
    some (((0, 0, ()), ()), ())
  else
  bif (decide (n_0 ≥ 128)) then
    (word_Not (0, 0, ())).bind fun r_3 =>
    some ((r_3.1.1, ()), ())
  else
  (word_Shl (0, 1, ()) n_0).bind fun r_4 =>
  (word_Sub r_4.1.1 (0, 1, ())).bind fun r_5 =>
  some ((r_5.1.1, ()), ())

/-! ### shunter/word.Bit -/
noncomputable def word_Bit (a_0 : Int × Int × Unit) (i_1 : Int) : Option ((Bool × Unit) × (Unit)) :=
  let t6_1 : Bool := decide (i_1 ≥ 0)
  guardR t6_1 (some ()) () fun _ =>
  guardR t6_1 (some (decide (i_1 < 128))) false fun v_2 =>
  let t10_3 : Bool := bif t6_1 then v_2 else false
  guardR t10_3 (some (a_0.1, a_0.2.1, ())) (0, 0, ()) fun v_4 =>
  guardR t10_3 (some ()) () fun _ =>
  guardR t10_3 (word_Shr v_4 i_1) (((0, 0, ()), ()), ()) fun r_5 =>
  guardR t10_3 (some r_5.1.1.2.1) 0 fun v_6 =>
  guardR t10_3 (some (bitsI .and .u64 v_6 1)) 0 fun v_7 =>
  guardR t10_3 (some (decide (v_7 = 1))) false fun v_8 =>
  some (((bif t10_3 then v_8 else false), ()), ())

/-! ### shunter/word.Cmp -/
noncomputable def word_Cmp (a_0 : Int × Int × Unit) (b_1 : Int × Int × Unit) : Option ((Int × Unit) × (Unit)) :=
  (word_Sub (a_0.1, a_0.2.1, ()) (b_1.1, b_1.2.1, ())).bind fun r_1 =>
  bif (decide (a_0.1 = b_1.1) && decide (a_0.2.1 = b_1.2.1)) then
    some ((0, ()), ())
  else
  bif r_1.1.2.1 then
    some (((-1), ()), ())
  else
  some ((1, ()), ())

/-! ### shunter/word.Len -/
noncomputable def word_Len (a_0 : Int × Int × Unit) : Option ((Int × Unit) × (Unit)) :=
  bif (decide (a_0.1 > 0)) then
    (bits_Len64 a_0.1).bind fun r_2 =>
    some (((IntKind.i64.wrap (64 + r_2.1.1)), ()), ())
  else
  (bits_Len64 a_0.2.1).bind fun r_4 =>
  some ((r_4.1.1, ()), ())

/-! ### shunter/shunterref01.Len -/
noncomputable def ref01_Len_s0 (i_3_0 : Int) (p1_0_0 : List Bool) : Option (((Int × Unit) × ((List Bool) × Unit)) ⊕ ((Int × Unit) × (Unit))) :=
  bif (decide (i_3_0 ≥ 0)) then
    (Option.map (fun _ => i_3_0) (ckI i_3_0 128)).bind fun v_2 =>
    (rdI p1_0_0 v_2).bind fun v_3 =>
    bif v_3 then
      some (.inr (((IntKind.i64.wrap (i_3_0 + 1)), ()), ()))
    else
    some (.inl (((IntKind.i64.wrap (i_3_0 - 1)), ()), p1_0_0, ()))
  else
  some (.inr ((0, ()), ()))
noncomputable def ref01_Len (a_0 : List Bool) : Option ((Int × Unit) × (Unit)) :=
  loopR (fun (z : (Int × Unit) × ((List Bool) × Unit)) => ref01_Len_s0 z.1.1 z.2.1) ((127, ()), a_0, ())

/-! ### shunter/word.digit -/
noncomputable def word_digit (c_0 : Int) : Option ((Int × Unit) × (Unit)) :=
  let t5_1 : Bool := decide (c_0 ≥ 48)
  guardR t5_1 (some ()) () fun _ =>
  guardR t5_1 (some (decide (c_0 ≤ 57))) false fun v_2 =>
  bif (bif t5_1 then v_2 else false) then
    some (((IntKind.i64.wrap (IntKind.u8.wrap (c_0 - 48))), ()), ())
  else
  let t15_6 : Bool := decide (c_0 ≥ 97)
  guardR t15_6 (some ()) () fun _ =>
  guardR t15_6 (some (decide (c_0 ≤ 102))) false fun v_7 =>
  bif (bif t15_6 then v_7 else false) then
    some (((IntKind.i64.wrap ((IntKind.i64.wrap (IntKind.u8.wrap (c_0 - 97))) + 10)), ()), ())
  else
  let t26_12 : Bool := decide (c_0 ≥ 65)
  guardR t26_12 (some ()) () fun _ =>
  guardR t26_12 (some (decide (c_0 ≤ 70))) false fun v_13 =>
  bif (bif t26_12 then v_13 else false) then
    some (((IntKind.i64.wrap ((IntKind.i64.wrap (IntKind.u8.wrap (c_0 - 65))) + 10)), ()), ())
  else
  some ((16, ()), ())

/-! ### shunter/word.Parse -/
noncomputable def word_Parse_s1 (s_0_1 : List Int) (base_1_1 : Int) (over_7_1 : Bool) (t25_25_1 : Int) (t26_26_1 : Int) (p4_0_1 : Int × Int × Unit) (p6_0_1 : Int × Int × Unit) : Option ((((List Int) × Int × Bool × Int × Int × Unit) × ((Int × Int × Unit) × (Int × Int × Unit) × Unit)) ⊕ (((Int × Int × Unit) × Int × Unit) × (Unit))) :=
  bif (decide (t26_26_1 < t25_25_1)) then
    (rdI s_0_1 t26_26_1).bind fun v_5 =>
    (word_digit v_5).bind fun r_6 =>
    bif (decide (r_6.1.1 ≥ base_1_1)) then
      some (.inr (((0, 0, ()), 4, ()), ()))
    else
    (word_Not (0, 0, ())).bind fun r_8 =>
    (word_Div r_8.1.1 (IntKind.u64.wrap base_1_1)).bind fun r_10 =>
    guardR (!over_7_1) (some (p6_0_1.1, p6_0_1.2.1, ())) (0, 0, ()) fun v_11 =>
    guardR (!over_7_1) (some r_10.1.1) (0, 0, ()) fun v_12 =>
    guardR (!over_7_1) (word_Cmp v_11 v_12) ((0, ()), ()) fun r_13 =>
    guardR (!over_7_1) (some (decide (r_13.1.1 > 0))) false fun v_14 =>
    let t52_15 : Bool := bif over_7_1 then true else v_14
    (word_Mul (p6_0_1.1, p6_0_1.2.1, ()) (0, (IntKind.u64.wrap base_1_1), ())).bind fun r_17 =>
    (word_Add r_17.1.1 (0, (IntKind.u64.wrap r_6.1.1), ())).bind fun r_19 =>
    guardR (!t52_15) (some ()) () fun _ =>
    some (.inl ((s_0_1, base_1_1, (bif t52_15 then true else r_19.1.2.1), t25_25_1, (IntKind.i64.wrap (t26_26_1 + 1)), ()), (p4_0_1.1, p4_0_1.2.1, ()), r_19.1.1, ()))
  else
  (bif over_7_1 then
    some (((0, 0, ()), 7, ()), ())
  else
  some (((p6_0_1.1, p6_0_1.2.1, ()), 0, ()), ())).map .inr
noncomputable def word_Parse (s_0 : List Int) (base_1 : Int) : Option (((Int × Int × Unit) × Int × Unit) × (Unit)) :=
  (word_based base_1).bind fun r_1 =>
  bif !r_1.1.1 then
    some (((0, 0, ()), 1, ()), ())
  else
  bif (decide (s_0 = [])) then
    some (((0, 0, ()), 3, ()), ())
  else
  loopR (fun (z : ((List Int) × Int × Bool × Int × Int × Unit) × ((Int × Int × Unit) × (Int × Int × Unit) × Unit)) => word_Parse_s1 z.1.1 z.1.2.1 z.1.2.2.1 z.1.2.2.2.1 z.1.2.2.2.2.1 z.2.1 z.2.2.1) ((s_0, base_1, false, (s_0.length : Int), 0, ()), (0, 0, ()), (0, 0, ()), ())

/-! ### shunter/shunterref01.small -/
noncomputable def ref01_small (n_0 : Int) : Option (((List Bool) × Unit) × (Unit)) :=
  (ref01_Of 0 (IntKind.u64.wrap n_0)).bind fun r_2 =>
  some ((r_2.1.1, ()), ())

/-! ### shunter/shunterref01.Parse -/
noncomputable def ref01_Parse_s2 (s_0_2 : List Int) (base_1_2 : Int) (over_7_2 : Bool) (i_8_2 : Int) (d_9_2 : Int) (k_10_2 : Int) (p4_0_2 : List Bool) (p6_0_2 : List Bool) : Option ((((List Int) × Int × Bool × Int × Int × Int × Unit) × ((List Bool) × (List Bool) × Unit)) ⊕ ((((List Int) × Int × Bool × Int × Unit) × ((List Bool) × (List Bool) × Unit)) ⊕ (((List Bool) × Int × Unit) × (Unit)))) :=
  bif (decide (k_10_2 < base_1_2)) then
    (rdI s_0_2 i_8_2).bind fun v_8 =>
    (rdI [48, 49, 50, 51, 52, 53, 54, 55, 56, 57, 97, 98, 99, 100, 101, 102] k_10_2).bind fun v_9 =>
    let t41_10 : Bool := decide (v_8 = v_9)
    guardR (!t41_10) (some ()) () fun _ =>
    guardR (!t41_10) (some ()) () fun _ =>
    guardR (!t41_10) (rdI s_0_2 i_8_2) 0 fun v_11 =>
    guardR (!t41_10) (some ()) () fun _ =>
    guardR (!t41_10) (rdI [48, 49, 50, 51, 52, 53, 54, 55, 56, 57, 65, 66, 67, 68, 69, 70] k_10_2) 0 fun v_12 =>
    guardR (!t41_10) (some (decide (v_11 = v_12))) false fun v_13 =>
    bif (bif t41_10 then true else v_13) then
      some (.inl ((s_0_2, base_1_2, over_7_2, i_8_2, k_10_2, (IntKind.i64.wrap (k_10_2 + 1)), ()), p4_0_2, p6_0_2, ()))
    else
    some (.inl ((s_0_2, base_1_2, over_7_2, i_8_2, d_9_2, (IntKind.i64.wrap (k_10_2 + 1)), ()), p4_0_2, p6_0_2, ()))
  else
  (bif (decide (d_9_2 = 99)) then
    some (.inr (([false, false, false, false, false, false, false, false, false, false, false, false, false, false, false, false, false, false, false, false, false, false, false, false, false, false, false, false, false, false, false, false, false, false, false, false, false, false, false, false, false, false, false, false, false, false, false, false, false, false, false, false, false, false, false, false, false, false, false, false, false, false, false, false, false, false, false, false, false, false, false, false, false, false, false, false, false, false, false, false, false, false, false, false, false, false, false, false, false, false, false, false, false, false, false, false, false, false, false, false, false, false, false, false, false, false, false, false, false, false, false, false, false, false, false, false, false, false, false, false, false, false, false, false, false, false, false, false], 4, ()), ()))
  else
  bif !over_7_2 then
    (ref01_Turned [false, false, false, false, false, false, false, false, false, false, false, false, false, false, false, false, false, false, false, false, false, false, false, false, false, false, false, false, false, false, false, false, false, false, false, false, false, false, false, false, false, false, false, false, false, false, false, false, false, false, false, false, false, false, false, false, false, false, false, false, false, false, false, false, false, false, false, false, false, false, false, false, false, false, false, false, false, false, false, false, false, false, false, false, false, false, false, false, false, false, false, false, false, false, false, false, false, false, false, false, false, false, false, false, false, false, false, false, false, false, false, false, false, false, false, false, false, false, false, false, false, false, false, false, false, false, false, false]).bind fun r_18 =>
    (ref01_small base_1_2).bind fun r_19 =>
    (ref01_Part r_18.1.1 r_19.1.1).bind fun r_20 =>
    (ref01_Less r_20.1.1 p6_0_2).bind fun r_21 =>
    (ref01_small base_1_2).bind fun r_22 =>
    (ref01_Product p6_0_2 r_22.1.1).bind fun r_23 =>
    (ref01_small d_9_2).bind fun r_24 =>
    (ref01_Sum r_23.1.1 r_24.1.1 false).bind fun r_25 =>
    guardR (!r_21.1.1) (some ()) () fun _ =>
    some (.inl ((s_0_2, base_1_2, (bif r_21.1.1 then true else r_25.1.2.1), (IntKind.i64.wrap (i_8_2 + 1)), ()), p4_0_2, r_25.1.1, ()))
  else
  some (.inl ((s_0_2, base_1_2, over_7_2, (IntKind.i64.wrap (i_8_2 + 1)), ()), p4_0_2, p6_0_2, ()))).map .inr
noncomputable def ref01_Parse_s0 (s_0_0 : List Int) (base_1_0 : Int) (over_7_0 : Bool) (i_8_0 : Int) (p4_0_0 : List Bool) (p6_0_0 : List Bool) : Option ((((List Int) × Int × Bool × Int × Unit) × ((List Bool) × (List Bool) × Unit)) ⊕ (((List Bool) × Int × Unit) × (Unit))) :=
  bif (decide (i_8_0 < (s_0_0.length : Int))) then
    loopR (fun (z : ((List Int) × Int × Bool × Int × Int × Int × Unit) × ((List Bool) × (List Bool) × Unit)) => ref01_Parse_s2 z.1.1 z.1.2.1 z.1.2.2.1 z.1.2.2.2.1 z.1.2.2.2.2.1 z.1.2.2.2.2.2.1 z.2.1 z.2.2.1) ((s_0_0, base_1_0, over_7_0, i_8_0, 99, 0, ()), p4_0_0, p6_0_0, ())
  else
  (bif over_7_0 then
    some (([false, false, false, false, false, false, false, false, false, false, false, false, false, false, false, false, false, false, false, false, false, false, false, false, false, false, false, false, false, false, false, false, false, false, false, false, false, false, false, false, false, false, false, false, false, false, false, false, false, false, false, false, false, false, false, false, false, false, false, false, false, false, false, false, false, false, false, false, false, false, false, false, false, false, false, false, false, false, false, false, false, false, false, false, false, false, false, false, false, false, false, false, false, false, false, false, false, false, false, false, false, false, false, false, false, false, false, false, false, false, false, false, false, false, false, false, false, false, false, false, false, false, false, false, false, false, false, false], 7, ()), ())
  else
  some ((p6_0_0, 0, ()), ())).map .inr
noncomputable def ref01_Parse (s_0 : List Int) (base_1 : Int) : Option (((List Bool) × Int × Unit) × (Unit)) :=
  let t16_1 : Bool := decide (base_1 < 2)
  guardR (!t16_1) (some ()) () fun _ =>
  guardR (!t16_1) (some (decide (base_1 > 16))) false fun v_2 =>
  bif (bif t16_1 then true else v_2) then
    some (([false, false, false, false, false, false, false, false, false, false, false, false, false, false, false, false, false, false, false, false, false, false, false, false, false, false, false, false, false, false, false, false, false, false, false, false, false, false, false, false, false, false, false, false, false, false, false, false, false, false, false, false, false, false, false, false, false, false, false, false, false, false, false, false, false, false, false, false, false, false, false, false, false, false, false, false, false, false, false, false, false, false, false, false, false, false, false, false, false, false, false, false, false, false, false, false, false, false, false, false, false, false, false, false, false, false, false, false, false, false, false, false, false, false, false, false, false, false, false, false, false, false, false, false, false, false, false, false], 1, ()), ())
  else
  bif (decide (s_0 = [])) then
    some (([false, false, false, false, false, false, false, false, false, false, false, false, false, false, false, false, false, false, false, false, false, false, false, false, false, false, false, false, false, false, false, false, false, false, false, false, false, false, false, false, false, false, false, false, false, false, false, false, false, false, false, false, false, false, false, false, false, false, false, false, false, false, false, false, false, false, false, false, false, false, false, false, false, false, false, false, false, false, false, false, false, false, false, false, false, false, false, false, false, false, false, false, false, false, false, false, false, false, false, false, false, false, false, false, false, false, false, false, false, false, false, false, false, false, false, false, false, false, false, false, false, false, false, false, false, false, false, false], 3, ()), ())
  else
  loopR (fun (z : ((List Int) × Int × Bool × Int × Unit) × ((List Bool) × (List Bool) × Unit)) => ref01_Parse_s0 z.1.1 z.1.2.1 z.1.2.2.1 z.1.2.2.2.1 z.2.1 z.2.2.1) ((s_0, base_1, false, 0, ()), List.replicate 128 false, List.replicate 128 false, ())

/-! ### shunter/shunterref01.Halves -/
noncomputable def ref01_Halves_s0 (hi_4_0 : Int) (lo_5_0 : Int) (i_6_0 : Int) (p1_0_0 : List Bool) : Option (((Int × Int × Int × Unit) × ((List Bool) × Unit)) ⊕ ((Int × Int × Unit) × (Unit))) :=
  bif (decide (i_6_0 ≥ 0)) then
    let t12_2 : Int := IntKind.u64.wrap (2 * hi_4_0)
    let t14_3 : Int := IntKind.u64.wrap (2 * lo_5_0)
    let t16_4 : Int := IntKind.i64.wrap (i_6_0 + 64)
    (Option.map (fun _ => t16_4) (ckI t16_4 128)).bind fun v_5 =>
    (rdI p1_0_0 v_5).bind fun v_6 =>
    bif v_6 then
      let t20_7 : Int := IntKind.u64.wrap (t12_2 + 1)
      (Option.map (fun _ => i_6_0) (ckI i_6_0 128)).bind fun v_8 =>
      (rdI p1_0_0 v_8).bind fun v_9 =>
      bif v_9 then
        some (.inl ((t20_7, (IntKind.u64.wrap (t14_3 + 1)), (IntKind.i64.wrap (i_6_0 - 1)), ()), p1_0_0, ()))
      else
      some (.inl ((t20_7, t14_3, (IntKind.i64.wrap (i_6_0 - 1)), ()), p1_0_0, ()))
    else
    (Option.map (fun _ => i_6_0) (ckI i_6_0 128)).bind fun v_13 =>
    (rdI p1_0_0 v_13).bind fun v_14 =>
    bif v_14 then
      some (.inl ((t12_2, (IntKind.u64.wrap (t14_3 + 1)), (IntKind.i64.wrap (i_6_0 - 1)), ()), p1_0_0, ()))
    else
    some (.inl ((t12_2, t14_3, (IntKind.i64.wrap (i_6_0 - 1)), ()), p1_0_0, ()))
  else
  some (.inr ((hi_4_0, lo_5_0, ()), ()))
noncomputable def ref01_Halves (r_0 : List Bool) : Option ((Int × Int × Unit) × (Unit)) :=
  loopR (fun (z : (Int × Int × Int × Unit) × ((List Bool) × Unit)) => ref01_Halves_s0 z.1.1 z.1.2.1 z.1.2.2.1 z.2.1) ((0, 0, 63, ()), r_0, ())

/-! ### shunter/shunterref01.Text -/
noncomputable def ref01_Text_s0 (base_1_0 : Int) (s_5_0 : List Int) (p2_0_0 : List Bool) : Option (((Int × (List Int) × Unit) × ((List Bool) × Unit)) ⊕ (((List Int) × Unit) × (Unit))) :=
  (ref01_Len p2_0_0).bind fun r_1 =>
  let t12_2 : Bool := decide (r_1.1.1 > 0)
  guardR (!t12_2) (some ()) () fun _ =>
  guardR (!t12_2) (some (decide (s_5_0 = []))) false fun v_3 =>
  bif (bif t12_2 then true else v_3) then
    (ref01_small base_1_0).bind fun r_5 =>
    (ref01_Part p2_0_0 r_5.1.1).bind fun r_6 =>
    (ref01_Halves r_6.1.2.1).bind fun r_7 =>
    (subL [48, 49, 50, 51, 52, 53, 54, 55, 56, 57, 97, 98, 99, 100, 101, 102] r_7.1.2.1 (IntKind.u64.wrap (r_7.1.2.1 + 1))).bind fun v_9 =>
    (catI v_9 s_5_0).bind fun v_10 =>
    some (.inl ((base_1_0, v_10, ()), r_6.1.1, ()))
  else
  some (.inr ((s_5_0, ()), ()))
noncomputable def ref01_Text (a_0 : List Bool) (base_1 : Int) : Option (((List Int) × Unit) × (Unit)) :=
  loopR (fun (z : (Int × (List Int) × Unit) × ((List Bool) × Unit)) => ref01_Text_s0 z.1.1 z.1.2.1 z.2.1) ((base_1, [], ()), a_0, ())

end Go.L

namespace Go.L
open Go Go.Pv
set_option maxRecDepth 100000

/-! ### shunter/vec.width -/
noncomputable def vec_width (w_0 : Int) : Option ((Bool × Unit) × (Unit)) :=
  let t4_1 : Bool := decide (w_0 ≥ 1)
  guardR t4_1 (some ()) () fun _ =>
  guardR t4_1 (some (decide (w_0 ≤ 128))) false fun v_2 =>
  some (((bif t4_1 then v_2 else false), ()), ())

/-! ### shunter/vec.Word -/
noncomputable def vec_Word (v_0 : Int × Int × Int × Unit) : Option (((Int × Int × Unit) × Unit) × (Unit)) :=
  some (((v_0.2.1, v_0.2.2.1, ()), ()), ())

/-! ### shunter/vec.May -/
noncomputable def vec_May (v_0 : Int × Int × Int × Unit) : Option ((Bool × Unit) × (Unit)) :=
  (vec_width v_0.1).bind fun r_1 =>
  guardR r_1.1.1 (some (v_0.1, v_0.2.1, v_0.2.2.1, ())) (0, 0, 0, ()) fun v_2 =>
  guardR r_1.1.1 (vec_Word v_2) (((0, 0, ()), ()), ()) fun r_3 =>
  guardR r_1.1.1 (word_Len r_3.1.1) ((0, ()), ()) fun r_4 =>
  guardR r_1.1.1 (some ()) () fun _ =>
  guardR r_1.1.1 (some v_0.1) 0 fun v_5 =>
  guardR r_1.1.1 (some (decide (r_4.1.1 ≤ v_5))) false fun v_6 =>
  some (((bif r_1.1.1 then v_6 else false), ()), ())

/-! ### shunter/shunterref02.Bits -/
noncomputable def ref02_Bits_s0 (l_4_0 : List Bool) (i_5_0 : Int) (p1_0_0 : Int × Int × Int × Unit) (p3_0_0 : List Bool) : Option ((((List Bool) × Int × Unit) × ((Int × Int × Int × Unit) × (List Bool) × Unit)) ⊕ (((List Bool) × Unit) × (Unit))) :=
  let t14_2 : Bool := decide (i_5_0 < p1_0_0.1)
  guardR t14_2 (some ()) () fun _ =>
  guardR t14_2 (some (decide (i_5_0 < 128))) false fun v_3 =>
  bif (bif t14_2 then v_3 else false) then
    (Option.map (fun _ => i_5_0) (ckI i_5_0 128)).bind fun v_5 =>
    (rdI p3_0_0 v_5).bind fun v_6 =>
    (roomI 1 l_4_0 [v_6]).bind fun v_7 =>
    some (.inl ((v_7, (IntKind.i64.wrap (i_5_0 + 1)), ()), (p1_0_0.1, p1_0_0.2.1, p1_0_0.2.2.1, ()), p3_0_0, ()))
  else
  some (.inr ((l_4_0, ()), ()))
noncomputable def ref02_Bits (v_0 : Int × Int × Int × Unit) : Option (((List Bool) × Unit) × (Unit)) :=
  (ref01_Of v_0.2.1 v_0.2.2.1).bind fun r_1 =>
  loopR (fun (z : ((List Bool) × Int × Unit) × ((Int × Int × Int × Unit) × (List Bool) × Unit)) => ref02_Bits_s0 z.1.1 z.1.2.1 z.2.1 z.2.2.1) (([], 0, ()), (v_0.1, v_0.2.1, v_0.2.2.1, ()), r_1.1.1, ())

/-! ### shunter/shunterref02.May -/
noncomputable def ref02_May (v_0 : Int × Int × Int × Unit) : Option ((Bool × Unit) × (Unit)) :=
  let t5_1 : Bool := decide (v_0.1 ≥ 1)
  guardR t5_1 (some ()) () fun _ =>
  guardR t5_1 (some v_0.1) 0 fun v_2 =>
  guardR t5_1 (some (decide (v_2 ≤ 128))) false fun v_3 =>
  let t10_4 : Bool := bif t5_1 then v_3 else false
  guardR t10_4 (some ()) () fun _ =>
  guardR t10_4 (some v_0.2.1) 0 fun v_5 =>
  guardR t10_4 (some ()) () fun _ =>
  guardR t10_4 (some v_0.2.2.1) 0 fun v_6 =>
  guardR t10_4 (ref01_Of v_5 v_6) ((List.replicate 128 false, ()), ()) fun r_7 =>
  guardR t10_4 (ref01_Len r_7.1.1) ((0, ()), ()) fun r_8 =>
  guardR t10_4 (some ()) () fun _ =>
  guardR t10_4 (some v_0.1) 0 fun v_9 =>
  guardR t10_4 (some (decide (r_8.1.1 ≤ v_9))) false fun v_10 =>
  some (((bif t10_4 then v_10 else false), ()), ())

end Go.L

namespace Go.L
open Go Go.Pv
set_option maxRecDepth 100000

/-! ### shunter/shunterref03.Bytes -/
noncomputable def ref03_Bytes_s2 (l_0_2 : List Bool) (b_3_2 : List Int) (i_4_2 : Int) (n_5_2 : Int) (k_6_2 : Int) : Option ((((List Bool) × (List Int) × Int × Int × Int × Unit) × (Unit)) ⊕ ((((List Bool) × (List Int) × Int × Unit) × (Unit)) ⊕ (((List Int) × Unit) × (Unit)))) :=
  bif (decide (k_6_2 < (IntKind.i64.wrap (i_4_2 + 8)))) then
    let t21_5 : Int := IntKind.i64.wrap (2 * n_5_2)
    let t25_7 : Bool := decide (k_6_2 < (l_0_2.length : Int))
    guardR t25_7 (some ()) () fun _ =>
    guardR t25_7 (some ()) () fun _ =>
    guardR t25_7 (rdI l_0_2 k_6_2) false fun v_8 =>
    guardR t25_7 (some ()) () fun _ =>
    bif (bif t25_7 then v_8 else false) then
      some (.inl ((l_0_2, b_3_2, i_4_2, (IntKind.i64.wrap (t21_5 + 1)), (IntKind.i64.wrap (k_6_2 + 1)), ()), ()))
    else
    some (.inl ((l_0_2, b_3_2, i_4_2, t21_5, (IntKind.i64.wrap (k_6_2 + 1)), ()), ()))
  else
  ((roomI 1 b_3_2 [(IntKind.u8.wrap n_5_2)]).bind fun v_14 =>
  some (.inl ((l_0_2, v_14, (IntKind.i64.wrap (i_4_2 + 8)), ()), ()))).map .inr
noncomputable def ref03_Bytes_s0 (l_0_0 : List Bool) (b_3_0 : List Int) (i_4_0 : Int) : Option ((((List Bool) × (List Int) × Int × Unit) × (Unit)) ⊕ (((List Int) × Unit) × (Unit))) :=
  bif (decide (i_4_0 < (l_0_0.length : Int))) then
    loopR (fun (z : ((List Bool) × (List Int) × Int × Int × Int × Unit) × (Unit)) => ref03_Bytes_s2 z.1.1 z.1.2.1 z.1.2.2.1 z.1.2.2.2.1 z.1.2.2.2.2.1) ((l_0_0, b_3_0, i_4_0, 0, i_4_0, ()), ())
  else
  some (.inr ((b_3_0, ()), ()))
noncomputable def ref03_Bytes (l_0 : List Bool) : Option (((List Int) × Unit) × (Unit)) :=
  loopR (fun (z : ((List Bool) × (List Int) × Int × Unit) × (Unit)) => ref03_Bytes_s0 z.1.1 z.1.2.1 z.1.2.2.1) ((l_0, [], 0, ()), ())

/-! ### shunter/shunterref03.Of -/
noncomputable def ref03_Of_s0 (l_3_0 : List Bool) (high_4_0 : List Bool) (i_5_0 : Int) : Option ((((List Bool) × (List Bool) × Int × Unit) × (Unit)) ⊕ (((List Bool) × Unit) × (Unit))) :=
  bif (decide (i_5_0 ≥ 0)) then
    (Option.map (fun _ => i_5_0) (ckI i_5_0 l_3_0.length)).bind fun v_5 =>
    (rdI l_3_0 v_5).bind fun v_6 =>
    (roomI 1 high_4_0 [v_6]).bind fun v_7 =>
    some (.inl ((l_3_0, v_7, (IntKind.i64.wrap (i_5_0 - 1)), ()), ()))
  else
  some (.inr ((high_4_0, ()), ()))
noncomputable def ref03_Of (v_0 : Int × Int × Int × Unit) : Option (((List Bool) × Unit) × (Unit)) :=
  (ref02_Bits (v_0.1, v_0.2.1, v_0.2.2.1, ())).bind fun r_1 =>
  loopR (fun (z : ((List Bool) × (List Bool) × Int × Unit) × (Unit)) => ref03_Of_s0 z.1.1 z.1.2.1 z.1.2.2.1) ((r_1.1.1, [], (IntKind.i64.wrap ((r_1.1.1.length : Int) - 1)), ()), ())

end Go.L

namespace Go.L
open Go Go.Pv
set_option maxRecDepth 100000

/-! ### shunter/wire.put -/
noncomputable def wire_put_s0 (n_1_0 : Int) (size_2_0 : Int) (out_7_0 : List Int) (t12_12_0 : Int) (t13_13_0 : Int) : Option (((Int × Int × (List Int) × Int × Int × Unit) × (Unit)) ⊕ (((List Int) × Unit) × (Unit))) :=
  bif (decide (t13_13_0 < t12_12_0)) then
    (shrI .i64 n_1_0 (IntKind.i64.wrap (8 * (IntKind.i64.wrap ((IntKind.i64.wrap (size_2_0 - 1)) - t13_13_0))))).bind fun v_7 =>
    (roomI 1 out_7_0 [(IntKind.u8.wrap v_7)]).bind fun v_9 =>
    some (.inl ((n_1_0, size_2_0, v_9, t12_12_0, (IntKind.i64.wrap (t13_13_0 + 1)), ()), ()))
  else
  some (.inr ((out_7_0, ()), ()))
noncomputable def wire_put (b_0 : List Int) (n_1 : Int) (size_2 : Int) : Option (((List Int) × Unit) × (Unit)) :=
  (bytes_Clone b_0).bind fun r_1 =>
  (slices_Clip_byte_byte r_1.1.1).bind fun r_2 =>
  loopR (fun (z : (Int × Int × (List Int) × Int × Int × Unit) × (Unit)) => wire_put_s0 z.1.1 z.1.2.1 z.1.2.2.1 z.1.2.2.2.1 z.1.2.2.2.2.1) ((n_1, size_2, r_2.1.1, size_2, 0, ()), ())

/-! ### shunter/wire.room -/
noncomputable def wire_room (w_0 : Int) : Option ((Int × Unit) × (Unit)) :=
  some (((IntKind.i64.wrap ((IntKind.i64.wrap ((IntKind.i64.wrap (w_0 + 8)) - 1)).tdiv 8)), ()), ())

/-! ### shunter/wire.Vec -/
noncomputable def wire_Vec_s0 (out_5_0 : List Int) (i_6_0 : Int) (p3_0_0 : Int × Int × Int × Unit) : Option ((((List Int) × Int × Unit) × ((Int × Int × Int × Unit) × Unit)) ⊕ (((List Int) × Unit) × (Unit))) :=
  bif (decide (i_6_0 ≥ 0)) then
    (vec_Word (p3_0_0.1, p3_0_0.2.1, p3_0_0.2.2.1, ())).bind fun r_7 =>
    (word_Shr r_7.1.1 (IntKind.i64.wrap (8 * i_6_0))).bind fun r_9 =>
    (roomI 1 out_5_0 [(IntKind.u8.wrap r_9.1.1.2.1)]).bind fun v_11 =>
    some (.inl ((v_11, (IntKind.i64.wrap (i_6_0 - 1)), ()), (p3_0_0.1, p3_0_0.2.1, p3_0_0.2.2.1, ()), ()))
  else
  some (.inr ((out_5_0, ()), ()))
noncomputable def wire_Vec (b_0 : List Int) (v_1 : Int × Int × Int × Unit) : Option (((List Int) × Unit) × (Unit)) :=
  (vec_May (v_1.1, v_1.2.1, v_1.2.2.1, ())).bind fun r_1 =>
  bif !r_1.1.1 then
    (wire_put b_0 0 1).bind fun r_2 =>
    some ((r_2.1.1, ()), ())
  else
  (wire_put b_0 v_1.1 1).bind fun r_3 =>
  (wire_room v_1.1).bind fun r_4 =>
  loopR (fun (z : ((List Int) × Int × Unit) × ((Int × Int × Int × Unit) × Unit)) => wire_Vec_s0 z.1.1 z.1.2.1 z.2.1) ((r_3.1.1, (IntKind.i64.wrap (r_4.1.1 - 1)), ()), (v_1.1, v_1.2.1, v_1.2.2.1, ()), ())

/-! ### shunter/wire.Byte -/
noncomputable def wire_Byte (b_0 : List Int) (n_1 : Int) : Option (((List Int) × Unit) × (Unit)) :=
  (wire_put b_0 n_1 1).bind fun r_1 =>
  some ((r_1.1.1, ()), ())

/-! ### shunter/shunterref07.Number -/
noncomputable def ref07_Number_s0 (l_5_0 : List Bool) (high_6_0 : List Bool) (i_7_0 : Int) : Option ((((List Bool) × (List Bool) × Int × Unit) × (Unit)) ⊕ (((List Int) × Unit) × (Unit))) :=
  bif (decide (i_7_0 ≥ 0)) then
    (Option.map (fun _ => i_7_0) (ckI i_7_0 l_5_0.length)).bind fun v_6 =>
    (rdI l_5_0 v_6).bind fun v_7 =>
    (roomI 1 high_6_0 [v_7]).bind fun v_8 =>
    some (.inl ((l_5_0, v_8, (IntKind.i64.wrap (i_7_0 - 1)), ()), ()))
  else
  ((ref03_Bytes high_6_0).bind fun r_10 =>
  some ((r_10.1.1, ()), ())).map .inr
noncomputable def ref07_Number (n_0 : Int) (size_1 : Int) : Option (((List Int) × Unit) × (Unit)) :=
  (ref02_Bits (64, 0, (IntKind.u64.wrap n_0), ())).bind fun r_2 =>
  loopR (fun (z : ((List Bool) × (List Bool) × Int × Unit) × (Unit)) => ref07_Number_s0 z.1.1 z.1.2.1 z.1.2.2.1) ((r_2.1.1, [], (IntKind.i64.wrap ((IntKind.i64.wrap (8 * size_1)) - 1)), ()), ())

/-! ### shunter/wire.Two -/
noncomputable def wire_Two (b_0 : List Int) (n_1 : Int) : Option (((List Int) × Unit) × (Unit)) :=
  (wire_put b_0 n_1 2).bind fun r_1 =>
  some ((r_1.1.1, ()), ())

/-! ### shunter/wire.Four -/
noncomputable def wire_Four (b_0 : List Int) (n_1 : Int) : Option (((List Int) × Unit) × (Unit)) :=
  (wire_put b_0 n_1 4).bind fun r_1 =>
  some ((r_1.1.1, ()), ())

/-! ### shunter/shunterref07.Vec -/
noncomputable def ref07_Vec_s0 (l_3_0 : List Bool) (p1_0_0 : Int × Int × Int × Unit) : Option ((((List Bool) × Unit) × ((Int × Int × Int × Unit) × Unit)) ⊕ (((List Int) × Unit) × (Unit))) :=
  bif (!decide (((IntKind.i64.wrap ((l_3_0.length : Int) + p1_0_0.1)).tmod 8) = 0)) then
    (roomI 1 l_3_0 [false]).bind fun v_6 =>
    some (.inl ((v_6, ()), (p1_0_0.1, p1_0_0.2.1, p1_0_0.2.2.1, ()), ()))
  else
  ((ref03_Of (p1_0_0.1, p1_0_0.2.1, p1_0_0.2.2.1, ())).bind fun r_8 =>
  (roomI 1 l_3_0 r_8.1.1).bind fun v_9 =>
  (ref03_Bytes v_9).bind fun r_10 =>
  (roomI 1 [(IntKind.u8.wrap p1_0_0.1)] r_10.1.1).bind fun v_11 =>
  some ((v_11, ()), ())).map .inr
noncomputable def ref07_Vec (v_0 : Int × Int × Int × Unit) : Option (((List Int) × Unit) × (Unit)) :=
  (ref02_May (v_0.1, v_0.2.1, v_0.2.2.1, ())).bind fun r_1 =>
  bif !r_1.1.1 then
    some (([0], ()), ())
  else
  loopR (fun (z : ((List Bool) × Unit) × ((Int × Int × Int × Unit) × Unit)) => ref07_Vec_s0 z.1.1 z.2.1) (([], ()), (v_0.1, v_0.2.1, v_0.2.2.1, ()), ())

/-! ### shunter/wire.Name -/
noncomputable def wire_Name (b_0 : List Int) (s_1 : List Int) : Option (((List Int) × Unit) × (Unit)) :=
  bif (decide ((s_1.length : Int) > 255)) then
    (wire_put b_0 0 1).bind fun r_3 =>
    some ((r_3.1.1, ()), ())
  else
  (wire_put b_0 (s_1.length : Int) 1).bind fun r_5 =>
  (roomI 1 r_5.1.1 s_1).bind fun v_6 =>
  some ((v_6, ()), ())

/-! ### shunter/shunterref07.Name -/
noncomputable def ref07_Name (s_0 : List Int) : Option (((List Int) × Unit) × (Unit)) :=
  bif (decide ((s_0.length : Int) > 255)) then
    some (([0], ()), ())
  else
  (roomI 1 [(IntKind.u8.wrap (s_0.length : Int))] s_0).bind fun v_5 =>
  some ((v_5, ()), ())

/-! ### shunter/wire.Vecs -/
noncomputable def wire_Vecs_s0 (out_5_0 : List Int) (t17_17_0 : List (Int × Int × Int × Unit)) (t18_18_0 : Int) (t19_19_0 : Int) : Option ((((List Int) × (List (Int × Int × Int × Unit)) × Int × Int × Unit) × (Unit)) ⊕ (((List Int) × Unit) × (Unit))) :=
  bif (decide (t19_19_0 < t18_18_0)) then
    (rdI t17_17_0 t19_19_0).bind fun v_8 =>
    (wire_Vec out_5_0 v_8).bind fun r_9 =>
    some (.inl ((r_9.1.1, t17_17_0, t18_18_0, (IntKind.i64.wrap (t19_19_0 + 1)), ()), ()))
  else
  some (.inr ((out_5_0, ()), ()))
noncomputable def wire_Vecs (b_0 : List Int) (l_1 : List (Int × Int × Int × Unit)) : Option (((List Int) × Unit) × (Unit)) :=
  bif (decide ((l_1.length : Int) > 255)) then
    (wire_put b_0 0 1).bind fun r_3 =>
    some ((r_3.1.1, ()), ())
  else
  (wire_put b_0 (l_1.length : Int) 1).bind fun r_5 =>
  loopR (fun (z : ((List Int) × (List (Int × Int × Int × Unit)) × Int × Int × Unit) × (Unit)) => wire_Vecs_s0 z.1.1 z.1.2.1 z.1.2.2.1 z.1.2.2.2.1) ((r_5.1.1, l_1, (l_1.length : Int), 0, ()), ())

/-! ### shunter/wire.Numbers -/
noncomputable def wire_Numbers_s0 (out_5_0 : List Int) (t17_17_0 : List Int) (t18_18_0 : Int) (t19_19_0 : Int) : Option ((((List Int) × (List Int) × Int × Int × Unit) × (Unit)) ⊕ (((List Int) × Unit) × (Unit))) :=
  bif (decide (t19_19_0 < t18_18_0)) then
    (rdI t17_17_0 t19_19_0).bind fun v_8 =>
    (roomI 1 out_5_0 [(IntKind.u8.wrap v_8)]).bind fun v_10 =>
    some (.inl ((v_10, t17_17_0, t18_18_0, (IntKind.i64.wrap (t19_19_0 + 1)), ()), ()))
  else
  some (.inr ((out_5_0, ()), ()))
noncomputable def wire_Numbers (b_0 : List Int) (l_1 : List Int) : Option (((List Int) × Unit) × (Unit)) :=
  bif (decide ((l_1.length : Int) > 255)) then
    (wire_put b_0 0 1).bind fun r_3 =>
    some ((r_3.1.1, ()), ())
  else
  (wire_put b_0 (l_1.length : Int) 1).bind fun r_5 =>
  loopR (fun (z : ((List Int) × (List Int) × Int × Int × Unit) × (Unit)) => wire_Numbers_s0 z.1.1 z.1.2.1 z.1.2.2.1 z.1.2.2.2.1) ((r_5.1.1, l_1, (l_1.length : Int), 0, ()), ())

/-! ### (*shunter/wire.Reader).Fail -/
noncomputable def wire_Reader_Fail_d6c (r_0 : Unit) (e_1 : Int) : Option ((Unit) × (Unit)) :=
  some ((), ())

end Go.L
