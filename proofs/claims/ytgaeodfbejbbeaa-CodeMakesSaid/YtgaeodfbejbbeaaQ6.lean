/- The functions that the statements reach as plain Lean, and what they compute. -/
import Derived.Test.YtgaeodfbejbbeaaQ5

set_option linter.unusedSimpArgs false
set_option linter.unusedVariables false

namespace Go.L
open Go Go.Pv
set_option maxRecDepth 100000

def getAlt0 {a : Type} {b : Type} : a ⊕ b → Option a := fun x => match x with | .inl y => some y | .inr _ => none
def getAlt1 {a : Type} {b : Type} {c : Type} : a ⊕ (b ⊕ c) → Option b := fun x => match x with | .inl _ => none | .inr y => (fun x => match x with | .inl y => some y | .inr _ => none) y
def getAlt2 {a : Type} {b : Type} {c : Type} {d : Type} : a ⊕ (b ⊕ (c ⊕ d)) → Option c := fun x => match x with | .inl _ => none | .inr y => (fun x => match x with | .inl _ => none | .inr y => (fun x => match x with | .inl y => some y | .inr _ => none) y) y
def getAlt3 {a : Type} {b : Type} {c : Type} {d : Type} {e : Type} : a ⊕ (b ⊕ (c ⊕ (d ⊕ e))) → Option d := fun x => match x with | .inl _ => none | .inr y => (fun x => match x with | .inl _ => none | .inr y => (fun x => match x with | .inl _ => none | .inr y => (fun x => match x with | .inl y => some y | .inr _ => none) y) y) y
def getAlt4 {a : Type} {b : Type} {c : Type} {d : Type} {e : Type} {f : Type} : a ⊕ (b ⊕ (c ⊕ (d ⊕ (e ⊕ f)))) → Option e := fun x => match x with | .inl _ => none | .inr y => (fun x => match x with | .inl _ => none | .inr y => (fun x => match x with | .inl _ => none | .inr y => (fun x => match x with | .inl _ => none | .inr y => (fun x => match x with | .inl y => some y | .inr _ => none) y) y) y) y
def getAlt5 {a : Type} {b : Type} {c : Type} {d : Type} {e : Type} {f : Type} {g : Type} : a ⊕ (b ⊕ (c ⊕ (d ⊕ (e ⊕ (f ⊕ g))))) → Option f := fun x => match x with | .inl _ => none | .inr y => (fun x => match x with | .inl _ => none | .inr y => (fun x => match x with | .inl _ => none | .inr y => (fun x => match x with | .inl _ => none | .inr y => (fun x => match x with | .inl _ => none | .inr y => (fun x => match x with | .inl y => some y | .inr _ => none) y) y) y) y) y
def getAlt6 {a : Type} {b : Type} {c : Type} {d : Type} {e : Type} {f : Type} {g : Type} {h : Type} : a ⊕ (b ⊕ (c ⊕ (d ⊕ (e ⊕ (f ⊕ (g ⊕ h)))))) → Option g := fun x => match x with | .inl _ => none | .inr y => (fun x => match x with | .inl _ => none | .inr y => (fun x => match x with | .inl _ => none | .inr y => (fun x => match x with | .inl _ => none | .inr y => (fun x => match x with | .inl _ => none | .inr y => (fun x => match x with | .inl _ => none | .inr y => (fun x => match x with | .inl y => some y | .inr _ => none) y) y) y) y) y) y
def getAlt7 {a : Type} {b : Type} {c : Type} {d : Type} {e : Type} {f : Type} {g : Type} {h : Type} {i : Type} : a ⊕ (b ⊕ (c ⊕ (d ⊕ (e ⊕ (f ⊕ (g ⊕ (h ⊕ i))))))) → Option h := fun x => match x with | .inl _ => none | .inr y => (fun x => match x with | .inl _ => none | .inr y => (fun x => match x with | .inl _ => none | .inr y => (fun x => match x with | .inl _ => none | .inr y => (fun x => match x with | .inl _ => none | .inr y => (fun x => match x with | .inl _ => none | .inr y => (fun x => match x with | .inl _ => none | .inr y => (fun x => match x with | .inl y => some y | .inr _ => none) y) y) y) y) y) y) y
def getAlt8 {a : Type} {b : Type} {c : Type} {d : Type} {e : Type} {f : Type} {g : Type} {h : Type} {i : Type} {j : Type} : a ⊕ (b ⊕ (c ⊕ (d ⊕ (e ⊕ (f ⊕ (g ⊕ (h ⊕ (i ⊕ j)))))))) → Option i := fun x => match x with | .inl _ => none | .inr y => (fun x => match x with | .inl _ => none | .inr y => (fun x => match x with | .inl _ => none | .inr y => (fun x => match x with | .inl _ => none | .inr y => (fun x => match x with | .inl _ => none | .inr y => (fun x => match x with | .inl _ => none | .inr y => (fun x => match x with | .inl _ => none | .inr y => (fun x => match x with | .inl _ => none | .inr y => (fun x => match x with | .inl y => some y | .inr _ => none) y) y) y) y) y) y) y) y
def getAlt9 {a : Type} {b : Type} {c : Type} {d : Type} {e : Type} {f : Type} {g : Type} {h : Type} {i : Type} {j : Type} {k : Type} : a ⊕ (b ⊕ (c ⊕ (d ⊕ (e ⊕ (f ⊕ (g ⊕ (h ⊕ (i ⊕ (j ⊕ k))))))))) → Option j := fun x => match x with | .inl _ => none | .inr y => (fun x => match x with | .inl _ => none | .inr y => (fun x => match x with | .inl _ => none | .inr y => (fun x => match x with | .inl _ => none | .inr y => (fun x => match x with | .inl _ => none | .inr y => (fun x => match x with | .inl _ => none | .inr y => (fun x => match x with | .inl _ => none | .inr y => (fun x => match x with | .inl _ => none | .inr y => (fun x => match x with | .inl _ => none | .inr y => (fun x => match x with | .inl y => some y | .inr _ => none) y) y) y) y) y) y) y) y) y
def getAlt10 {a : Type} {b : Type} {c : Type} {d : Type} {e : Type} {f : Type} {g : Type} {h : Type} {i : Type} {j : Type} {k : Type} {l : Type} : a ⊕ (b ⊕ (c ⊕ (d ⊕ (e ⊕ (f ⊕ (g ⊕ (h ⊕ (i ⊕ (j ⊕ (k ⊕ l)))))))))) → Option k := fun x => match x with | .inl _ => none | .inr y => (fun x => match x with | .inl _ => none | .inr y => (fun x => match x with | .inl _ => none | .inr y => (fun x => match x with | .inl _ => none | .inr y => (fun x => match x with | .inl _ => none | .inr y => (fun x => match x with | .inl _ => none | .inr y => (fun x => match x with | .inl _ => none | .inr y => (fun x => match x with | .inl _ => none | .inr y => (fun x => match x with | .inl _ => none | .inr y => (fun x => match x with | .inl _ => none | .inr y => (fun x => match x with | .inl y => some y | .inr _ => none) y) y) y) y) y) y) y) y) y) y
def isNil11 {a : Type} {b : Type} {c : Type} {d : Type} {e : Type} {f : Type} {g : Type} {h : Type} {i : Type} {j : Type} {k : Type} : a ⊕ (b ⊕ (c ⊕ (d ⊕ (e ⊕ (f ⊕ (g ⊕ (h ⊕ (i ⊕ (j ⊕ (k ⊕ (Unit))))))))))) → Bool := fun x => match x with | .inl _ => false | .inr y => (fun x => match x with | .inl _ => false | .inr y => (fun x => match x with | .inl _ => false | .inr y => (fun x => match x with | .inl _ => false | .inr y => (fun x => match x with | .inl _ => false | .inr y => (fun x => match x with | .inl _ => false | .inr y => (fun x => match x with | .inl _ => false | .inr y => (fun x => match x with | .inl _ => false | .inr y => (fun x => match x with | .inl _ => false | .inr y => (fun x => match x with | .inl _ => false | .inr y => (fun x => match x with | .inl _ => false | .inr y => (fun _ => true) y) y) y) y) y) y) y) y) y) y) y
/-! ### math/bits.Sub64 -/
noncomputable abbrev bits_Sub64 := sub64F

/-! ### math/bits.Len64 -/
noncomputable def bits_Len64 (x_0 : Int) : Option ((Int × Unit) × (Unit)) :=
  bif (decide (x_0 ≥ 4294967296)) then
    let t6_2 : Int := x_0.fdiv (2 ^ 32)
    bif (decide (t6_2 ≥ 65536)) then
      let t10_4 : Int := t6_2.fdiv (2 ^ 16)
      let t12_5 : Int := IntKind.i64.wrap (32 + 16)
      bif (decide (t10_4 ≥ 256)) then
        (rdI [0, 1, 2, 2, 3, 3, 3, 3, 4, 4, 4, 4, 4, 4, 4, 4, 5, 5, 5, 5, 5, 5, 5, 5, 5, 5, 5, 5, 5, 5, 5, 5, 6, 6, 6, 6, 6, 6, 6, 6, 6, 6, 6, 6, 6, 6, 6, 6, 6, 6, 6, 6, 6, 6, 6, 6, 6, 6, 6, 6, 6, 6, 6, 6, 7, 7, 7, 7, 7, 7, 7, 7, 7, 7, 7, 7, 7, 7, 7, 7, 7, 7, 7, 7, 7, 7, 7, 7, 7, 7, 7, 7, 7, 7, 7, 7, 7, 7, 7, 7, 7, 7, 7, 7, 7, 7, 7, 7, 7, 7, 7, 7, 7, 7, 7, 7, 7, 7, 7, 7, 7, 7, 7, 7, 7, 7, 7, 7, 8, 8, 8, 8, 8, 8, 8, 8, 8, 8, 8, 8, 8, 8, 8, 8, 8, 8, 8, 8, 8, 8, 8, 8, 8, 8, 8, 8, 8, 8, 8, 8, 8, 8, 8, 8, 8, 8, 8, 8, 8, 8, 8, 8, 8, 8, 8, 8, 8, 8, 8, 8, 8, 8, 8, 8, 8, 8, 8, 8, 8, 8, 8, 8, 8, 8, 8, 8, 8, 8, 8, 8, 8, 8, 8, 8, 8, 8, 8, 8, 8, 8, 8, 8, 8, 8, 8, 8, 8, 8, 8, 8, 8, 8, 8, 8, 8, 8, 8, 8, 8, 8, 8, 8, 8, 8, 8, 8, 8, 8, 8, 8, 8, 8, 8, 8, 8, 8, 8, 8, 8, 8, 8, 8, 8, 8, 8, 8] (IntKind.u8.wrap (t10_4.fdiv (2 ^ 8)))).bind fun v_10 =>
        some (((IntKind.i64.wrap ((IntKind.i64.wrap (t12_5 + 8)) + (IntKind.i64.wrap v_10))), ()), ())
      else
      (rdI [0, 1, 2, 2, 3, 3, 3, 3, 4, 4, 4, 4, 4, 4, 4, 4, 5, 5, 5, 5, 5, 5, 5, 5, 5, 5, 5, 5, 5, 5, 5, 5, 6, 6, 6, 6, 6, 6, 6, 6, 6, 6, 6, 6, 6, 6, 6, 6, 6, 6, 6, 6, 6, 6, 6, 6, 6, 6, 6, 6, 6, 6, 6, 6, 7, 7, 7, 7, 7, 7, 7, 7, 7, 7, 7, 7, 7, 7, 7, 7, 7, 7, 7, 7, 7, 7, 7, 7, 7, 7, 7, 7, 7, 7, 7, 7, 7, 7, 7, 7, 7, 7, 7, 7, 7, 7, 7, 7, 7, 7, 7, 7, 7, 7, 7, 7, 7, 7, 7, 7, 7, 7, 7, 7, 7, 7, 7, 7, 8, 8, 8, 8, 8, 8, 8, 8, 8, 8, 8, 8, 8, 8, 8, 8, 8, 8, 8, 8, 8, 8, 8, 8, 8, 8, 8, 8, 8, 8, 8, 8, 8, 8, 8, 8, 8, 8, 8, 8, 8, 8, 8, 8, 8, 8, 8, 8, 8, 8, 8, 8, 8, 8, 8, 8, 8, 8, 8, 8, 8, 8, 8, 8, 8, 8, 8, 8, 8, 8, 8, 8, 8, 8, 8, 8, 8, 8, 8, 8, 8, 8, 8, 8, 8, 8, 8, 8, 8, 8, 8, 8, 8, 8, 8, 8, 8, 8, 8, 8, 8, 8, 8, 8, 8, 8, 8, 8, 8, 8, 8, 8, 8, 8, 8, 8, 8, 8, 8, 8, 8, 8, 8, 8, 8, 8, 8, 8] (IntKind.u8.wrap t10_4)).bind fun v_14 =>
      some (((IntKind.i64.wrap (t12_5 + (IntKind.i64.wrap v_14))), ()), ())
    else
    bif (decide (t6_2 ≥ 256)) then
      (rdI [0, 1, 2, 2, 3, 3, 3, 3, 4, 4, 4, 4, 4, 4, 4, 4, 5, 5, 5, 5, 5, 5, 5, 5, 5, 5, 5, 5, 5, 5, 5, 5, 6, 6, 6, 6, 6, 6, 6, 6, 6, 6, 6, 6, 6, 6, 6, 6, 6, 6, 6, 6, 6, 6, 6, 6, 6, 6, 6, 6, 6, 6, 6, 6, 7, 7, 7, 7, 7, 7, 7, 7, 7, 7, 7, 7, 7, 7, 7, 7, 7, 7, 7, 7, 7, 7, 7, 7, 7, 7, 7, 7, 7, 7, 7, 7, 7, 7, 7, 7, 7, 7, 7, 7, 7, 7, 7, 7, 7, 7, 7, 7, 7, 7, 7, 7, 7, 7, 7, 7, 7, 7, 7, 7, 7, 7, 7, 7, 8, 8, 8, 8, 8, 8, 8, 8, 8, 8, 8, 8, 8, 8, 8, 8, 8, 8, 8, 8, 8, 8, 8, 8, 8, 8, 8, 8, 8, 8, 8, 8, 8, 8, 8, 8, 8, 8, 8, 8, 8, 8, 8, 8, 8, 8, 8, 8, 8, 8, 8, 8, 8, 8, 8, 8, 8, 8, 8, 8, 8, 8, 8, 8, 8, 8, 8, 8, 8, 8, 8, 8, 8, 8, 8, 8, 8, 8, 8, 8, 8, 8, 8, 8, 8, 8, 8, 8, 8, 8, 8, 8, 8, 8, 8, 8, 8, 8, 8, 8, 8, 8, 8, 8, 8, 8, 8, 8, 8, 8, 8, 8, 8, 8, 8, 8, 8, 8, 8, 8, 8, 8, 8, 8, 8, 8, 8, 8] (IntKind.u8.wrap (t6_2.fdiv (2 ^ 8)))).bind fun v_21 =>
      some (((IntKind.i64.wrap ((IntKind.i64.wrap (32 + 8)) + (IntKind.i64.wrap v_21))), ()), ())
    else
    (rdI [0, 1, 2, 2, 3, 3, 3, 3, 4, 4, 4, 4, 4, 4, 4, 4, 5, 5, 5, 5, 5, 5, 5, 5, 5, 5, 5, 5, 5, 5, 5, 5, 6, 6, 6, 6, 6, 6, 6, 6, 6, 6, 6, 6, 6, 6, 6, 6, 6, 6, 6, 6, 6, 6, 6, 6, 6, 6, 6, 6, 6, 6, 6, 6, 7, 7, 7, 7, 7, 7, 7, 7, 7, 7, 7, 7, 7, 7, 7, 7, 7, 7, 7, 7, 7, 7, 7, 7, 7, 7, 7, 7, 7, 7, 7, 7, 7, 7, 7, 7, 7, 7, 7, 7, 7, 7, 7, 7, 7, 7, 7, 7, 7, 7, 7, 7, 7, 7, 7, 7, 7, 7, 7, 7, 7, 7, 7, 7, 8, 8, 8, 8, 8, 8, 8, 8, 8, 8, 8, 8, 8, 8, 8, 8, 8, 8, 8, 8, 8, 8, 8, 8, 8, 8, 8, 8, 8, 8, 8, 8, 8, 8, 8, 8, 8, 8, 8, 8, 8, 8, 8, 8, 8, 8, 8, 8, 8, 8, 8, 8, 8, 8, 8, 8, 8, 8, 8, 8, 8, 8, 8, 8, 8, 8, 8, 8, 8, 8, 8, 8, 8, 8, 8, 8, 8, 8, 8, 8, 8, 8, 8, 8, 8, 8, 8, 8, 8, 8, 8, 8, 8, 8, 8, 8, 8, 8, 8, 8, 8, 8, 8, 8, 8, 8, 8, 8, 8, 8, 8, 8, 8, 8, 8, 8, 8, 8, 8, 8, 8, 8, 8, 8, 8, 8, 8, 8] (IntKind.u8.wrap t6_2)).bind fun v_25 =>
    some (((IntKind.i64.wrap (32 + (IntKind.i64.wrap v_25))), ()), ())
  else
  bif (decide (x_0 ≥ 65536)) then
    let t10_29 : Int := x_0.fdiv (2 ^ 16)
    let t12_30 : Int := IntKind.i64.wrap (0 + 16)
    bif (decide (t10_29 ≥ 256)) then
      (rdI [0, 1, 2, 2, 3, 3, 3, 3, 4, 4, 4, 4, 4, 4, 4, 4, 5, 5, 5, 5, 5, 5, 5, 5, 5, 5, 5, 5, 5, 5, 5, 5, 6, 6, 6, 6, 6, 6, 6, 6, 6, 6, 6, 6, 6, 6, 6, 6, 6, 6, 6, 6, 6, 6, 6, 6, 6, 6, 6, 6, 6, 6, 6, 6, 7, 7, 7, 7, 7, 7, 7, 7, 7, 7, 7, 7, 7, 7, 7, 7, 7, 7, 7, 7, 7, 7, 7, 7, 7, 7, 7, 7, 7, 7, 7, 7, 7, 7, 7, 7, 7, 7, 7, 7, 7, 7, 7, 7, 7, 7, 7, 7, 7, 7, 7, 7, 7, 7, 7, 7, 7, 7, 7, 7, 7, 7, 7, 7, 8, 8, 8, 8, 8, 8, 8, 8, 8, 8, 8, 8, 8, 8, 8, 8, 8, 8, 8, 8, 8, 8, 8, 8, 8, 8, 8, 8, 8, 8, 8, 8, 8, 8, 8, 8, 8, 8, 8, 8, 8, 8, 8, 8, 8, 8, 8, 8, 8, 8, 8, 8, 8, 8, 8, 8, 8, 8, 8, 8, 8, 8, 8, 8, 8, 8, 8, 8, 8, 8, 8, 8, 8, 8, 8, 8, 8, 8, 8, 8, 8, 8, 8, 8, 8, 8, 8, 8, 8, 8, 8, 8, 8, 8, 8, 8, 8, 8, 8, 8, 8, 8, 8, 8, 8, 8, 8, 8, 8, 8, 8, 8, 8, 8, 8, 8, 8, 8, 8, 8, 8, 8, 8, 8, 8, 8, 8, 8] (IntKind.u8.wrap (t10_29.fdiv (2 ^ 8)))).bind fun v_35 =>
      some (((IntKind.i64.wrap ((IntKind.i64.wrap (t12_30 + 8)) + (IntKind.i64.wrap v_35))), ()), ())
    else
    (rdI [0, 1, 2, 2, 3, 3, 3, 3, 4, 4, 4, 4, 4, 4, 4, 4, 5, 5, 5, 5, 5, 5, 5, 5, 5, 5, 5, 5, 5, 5, 5, 5, 6, 6, 6, 6, 6, 6, 6, 6, 6, 6, 6, 6, 6, 6, 6, 6, 6, 6, 6, 6, 6, 6, 6, 6, 6, 6, 6, 6, 6, 6, 6, 6, 7, 7, 7, 7, 7, 7, 7, 7, 7, 7, 7, 7, 7, 7, 7, 7, 7, 7, 7, 7, 7, 7, 7, 7, 7, 7, 7, 7, 7, 7, 7, 7, 7, 7, 7, 7, 7, 7, 7, 7, 7, 7, 7, 7, 7, 7, 7, 7, 7, 7, 7, 7, 7, 7, 7, 7, 7, 7, 7, 7, 7, 7, 7, 7, 8, 8, 8, 8, 8, 8, 8, 8, 8, 8, 8, 8, 8, 8, 8, 8, 8, 8, 8, 8, 8, 8, 8, 8, 8, 8, 8, 8, 8, 8, 8, 8, 8, 8, 8, 8, 8, 8, 8, 8, 8, 8, 8, 8, 8, 8, 8, 8, 8, 8, 8, 8, 8, 8, 8, 8, 8, 8, 8, 8, 8, 8, 8, 8, 8, 8, 8, 8, 8, 8, 8, 8, 8, 8, 8, 8, 8, 8, 8, 8, 8, 8, 8, 8, 8, 8, 8, 8, 8, 8, 8, 8, 8, 8, 8, 8, 8, 8, 8, 8, 8, 8, 8, 8, 8, 8, 8, 8, 8, 8, 8, 8, 8, 8, 8, 8, 8, 8, 8, 8, 8, 8, 8, 8, 8, 8, 8, 8] (IntKind.u8.wrap t10_29)).bind fun v_39 =>
    some (((IntKind.i64.wrap (t12_30 + (IntKind.i64.wrap v_39))), ()), ())
  else
  bif (decide (x_0 ≥ 256)) then
    (rdI [0, 1, 2, 2, 3, 3, 3, 3, 4, 4, 4, 4, 4, 4, 4, 4, 5, 5, 5, 5, 5, 5, 5, 5, 5, 5, 5, 5, 5, 5, 5, 5, 6, 6, 6, 6, 6, 6, 6, 6, 6, 6, 6, 6, 6, 6, 6, 6, 6, 6, 6, 6, 6, 6, 6, 6, 6, 6, 6, 6, 6, 6, 6, 6, 7, 7, 7, 7, 7, 7, 7, 7, 7, 7, 7, 7, 7, 7, 7, 7, 7, 7, 7, 7, 7, 7, 7, 7, 7, 7, 7, 7, 7, 7, 7, 7, 7, 7, 7, 7, 7, 7, 7, 7, 7, 7, 7, 7, 7, 7, 7, 7, 7, 7, 7, 7, 7, 7, 7, 7, 7, 7, 7, 7, 7, 7, 7, 7, 8, 8, 8, 8, 8, 8, 8, 8, 8, 8, 8, 8, 8, 8, 8, 8, 8, 8, 8, 8, 8, 8, 8, 8, 8, 8, 8, 8, 8, 8, 8, 8, 8, 8, 8, 8, 8, 8, 8, 8, 8, 8, 8, 8, 8, 8, 8, 8, 8, 8, 8, 8, 8, 8, 8, 8, 8, 8, 8, 8, 8, 8, 8, 8, 8, 8, 8, 8, 8, 8, 8, 8, 8, 8, 8, 8, 8, 8, 8, 8, 8, 8, 8, 8, 8, 8, 8, 8, 8, 8, 8, 8, 8, 8, 8, 8, 8, 8, 8, 8, 8, 8, 8, 8, 8, 8, 8, 8, 8, 8, 8, 8, 8, 8, 8, 8, 8, 8, 8, 8, 8, 8, 8, 8, 8, 8, 8, 8] (IntKind.u8.wrap (x_0.fdiv (2 ^ 8)))).bind fun v_46 =>
    some (((IntKind.i64.wrap ((IntKind.i64.wrap (0 + 8)) + (IntKind.i64.wrap v_46))), ()), ())
  else
  (rdI [0, 1, 2, 2, 3, 3, 3, 3, 4, 4, 4, 4, 4, 4, 4, 4, 5, 5, 5, 5, 5, 5, 5, 5, 5, 5, 5, 5, 5, 5, 5, 5, 6, 6, 6, 6, 6, 6, 6, 6, 6, 6, 6, 6, 6, 6, 6, 6, 6, 6, 6, 6, 6, 6, 6, 6, 6, 6, 6, 6, 6, 6, 6, 6, 7, 7, 7, 7, 7, 7, 7, 7, 7, 7, 7, 7, 7, 7, 7, 7, 7, 7, 7, 7, 7, 7, 7, 7, 7, 7, 7, 7, 7, 7, 7, 7, 7, 7, 7, 7, 7, 7, 7, 7, 7, 7, 7, 7, 7, 7, 7, 7, 7, 7, 7, 7, 7, 7, 7, 7, 7, 7, 7, 7, 7, 7, 7, 7, 8, 8, 8, 8, 8, 8, 8, 8, 8, 8, 8, 8, 8, 8, 8, 8, 8, 8, 8, 8, 8, 8, 8, 8, 8, 8, 8, 8, 8, 8, 8, 8, 8, 8, 8, 8, 8, 8, 8, 8, 8, 8, 8, 8, 8, 8, 8, 8, 8, 8, 8, 8, 8, 8, 8, 8, 8, 8, 8, 8, 8, 8, 8, 8, 8, 8, 8, 8, 8, 8, 8, 8, 8, 8, 8, 8, 8, 8, 8, 8, 8, 8, 8, 8, 8, 8, 8, 8, 8, 8, 8, 8, 8, 8, 8, 8, 8, 8, 8, 8, 8, 8, 8, 8, 8, 8, 8, 8, 8, 8, 8, 8, 8, 8, 8, 8, 8, 8, 8, 8, 8, 8, 8, 8, 8, 8, 8, 8] (IntKind.u8.wrap x_0)).bind fun v_50 =>
  some (((IntKind.i64.wrap (0 + (IntKind.i64.wrap v_50))), ()), ())

/-! ### math/bits.LeadingZeros64 -/
noncomputable def bits_LeadingZeros64 (x_0 : Int) : Option ((Int × Unit) × (Unit)) :=
  (bits_Len64 x_0).bind fun r_1 =>
  some (((IntKind.i64.wrap (64 - r_1.1.1)), ()), ())

/-! ### math/bits.Div64 -/
noncomputable def bits_Div64_s2 (y_2_2 : Int) (s_8_2 : Int) (yn1_9_2 : Int) (yn0_10_2 : Int) (un0_14_2 : Int) (q1_15_2 : Int) (rhat_16_2 : Int) (un21_17_2 : Int) (q0_18_2 : Int) : Option (((Int × Int × Int × Int × Int × Int × Int × Int × Int × Unit) × (Unit)) ⊕ ((Int × Int × Unit) × (Unit))) :=
  let t103_37 : Bool := decide (q0_18_2 ≥ 4294967296)
  guardR (!t103_37) (some ()) () fun _ =>
  guardR (!t103_37) (some ()) () fun _ =>
  guardR (!t103_37) (some (IntKind.u64.wrap (q0_18_2 * yn0_10_2))) 0 fun v_38 =>
  guardR (!t103_37) (some ()) () fun _ =>
  guardR (!t103_37) (some (IntKind.u64.wrap (4294967296 * rhat_16_2))) 0 fun v_39 =>
  guardR (!t103_37) (some ()) () fun _ =>
  guardR (!t103_37) (some (IntKind.u64.wrap (v_39 + un0_14_2))) 0 fun v_40 =>
  guardR (!t103_37) (some (decide (v_38 > v_40))) false fun v_41 =>
  bif (bif t103_37 then true else v_41) then
    let t115_43 : Int := IntKind.u64.wrap (q0_18_2 - 1)
    let t118_44 : Int := IntKind.u64.wrap (rhat_16_2 + yn1_9_2)
    bif (decide (t118_44 ≥ 4294967296)) then
      ((shrI .u64 (IntKind.u64.wrap ((IntKind.u64.wrap ((IntKind.u64.wrap (un21_17_2 * 4294967296)) + un0_14_2)) - (IntKind.u64.wrap (t115_43 * y_2_2)))) s_8_2).bind fun v_52 =>
      some (((IntKind.u64.wrap ((IntKind.u64.wrap (q1_15_2 * 4294967296)) + t115_43)), v_52, ()), ())).map .inr
    else
    some (.inl ((y_2_2, s_8_2, yn1_9_2, yn0_10_2, un0_14_2, q1_15_2, t118_44, un21_17_2, t115_43, ()), ()))
  else
  ((shrI .u64 (IntKind.u64.wrap ((IntKind.u64.wrap ((IntKind.u64.wrap (un21_17_2 * 4294967296)) + un0_14_2)) - (IntKind.u64.wrap (q0_18_2 * y_2_2)))) s_8_2).bind fun v_59 =>
  some (((IntKind.u64.wrap ((IntKind.u64.wrap (q1_15_2 * 4294967296)) + q0_18_2)), v_59, ()), ())).map .inr
noncomputable def bits_Div64_s0 (y_2_0 : Int) (s_8_0 : Int) (yn1_9_0 : Int) (yn0_10_0 : Int) (un32_11_0 : Int) (un1_13_0 : Int) (un0_14_0 : Int) (q1_15_0 : Int) (rhat_16_0 : Int) : Option (((Int × Int × Int × Int × Int × Int × Int × Int × Int × Unit) × (Unit)) ⊕ ((Int × Int × Unit) × (Unit))) :=
  let t68_21 : Bool := decide (q1_15_0 ≥ 4294967296)
  guardR (!t68_21) (some ()) () fun _ =>
  guardR (!t68_21) (some ()) () fun _ =>
  guardR (!t68_21) (some (IntKind.u64.wrap (q1_15_0 * yn0_10_0))) 0 fun v_22 =>
  guardR (!t68_21) (some ()) () fun _ =>
  guardR (!t68_21) (some (IntKind.u64.wrap (4294967296 * rhat_16_0))) 0 fun v_23 =>
  guardR (!t68_21) (some ()) () fun _ =>
  guardR (!t68_21) (some (IntKind.u64.wrap (v_23 + un1_13_0))) 0 fun v_24 =>
  guardR (!t68_21) (some (decide (v_22 > v_24))) false fun v_25 =>
  bif (bif t68_21 then true else v_25) then
    let t80_27 : Int := IntKind.u64.wrap (q1_15_0 - 1)
    let t83_28 : Int := IntKind.u64.wrap (rhat_16_0 + yn1_9_0)
    bif (decide (t83_28 ≥ 4294967296)) then
      let t93_33 : Int := IntKind.u64.wrap ((IntKind.u64.wrap ((IntKind.u64.wrap (un32_11_0 * 4294967296)) + un1_13_0)) - (IntKind.u64.wrap (t80_27 * y_2_0)))
      ((quoI .u64 t93_33 yn1_9_0).bind fun v_34 =>
      loopR (fun (z : (Int × Int × Int × Int × Int × Int × Int × Int × Int × Unit) × (Unit)) => bits_Div64_s2 z.1.1 z.1.2.1 z.1.2.2.1 z.1.2.2.2.1 z.1.2.2.2.2.1 z.1.2.2.2.2.2.1 z.1.2.2.2.2.2.2.1 z.1.2.2.2.2.2.2.2.1 z.1.2.2.2.2.2.2.2.2.1) ((y_2_0, s_8_0, yn1_9_0, yn0_10_0, un0_14_0, t80_27, (IntKind.u64.wrap (t93_33 - (IntKind.u64.wrap (v_34 * yn1_9_0)))), t93_33, v_34, ()), ())).map .inr
    else
    some (.inl ((y_2_0, s_8_0, yn1_9_0, yn0_10_0, un32_11_0, un1_13_0, un0_14_0, t80_27, t83_28, ()), ()))
  else
  let t93_63 : Int := IntKind.u64.wrap ((IntKind.u64.wrap ((IntKind.u64.wrap (un32_11_0 * 4294967296)) + un1_13_0)) - (IntKind.u64.wrap (q1_15_0 * y_2_0)))
  ((quoI .u64 t93_63 yn1_9_0).bind fun v_64 =>
  loopR (fun (z : (Int × Int × Int × Int × Int × Int × Int × Int × Int × Unit) × (Unit)) => bits_Div64_s2 z.1.1 z.1.2.1 z.1.2.2.1 z.1.2.2.2.1 z.1.2.2.2.2.1 z.1.2.2.2.2.2.1 z.1.2.2.2.2.2.2.1 z.1.2.2.2.2.2.2.2.1 z.1.2.2.2.2.2.2.2.2.1) ((y_2_0, s_8_0, yn1_9_0, yn0_10_0, un0_14_0, q1_15_0, (IntKind.u64.wrap (t93_63 - (IntKind.u64.wrap (v_64 * yn1_9_0)))), t93_63, v_64, ()), ())).map .inr
noncomputable def bits_Div64 (hi_0 : Int) (lo_1 : Int) (y_2 : Int) : Option ((Int × Int × Unit) × (Unit)) :=
  bif (decide (y_2 = 0)) then
    none
  else
  bif (decide (y_2 ≤ hi_0)) then
    none
  else
  bif (decide (hi_0 = 0)) then
    (quoI .u64 lo_1 y_2).bind fun v_4 =>
    (remI lo_1 y_2).bind fun v_5 =>
    some ((v_4, v_5, ()), ())
  else
  (bits_LeadingZeros64 y_2).bind fun r_6 =>
  let t36_7 : Int := IntKind.u64.wrap r_6.1.1
  (shlI .u64 y_2 t36_7).bind fun v_8 =>
  let t41_9 : Int := v_8.fdiv (2 ^ 32)
  (shlI .u64 hi_0 t36_7).bind fun v_11 =>
  (shrI .u64 lo_1 (IntKind.u64.wrap (64 - t36_7))).bind fun v_13 =>
  let t51_14 : Int := bitsI .or .u64 v_11 v_13
  (shlI .u64 lo_1 t36_7).bind fun v_15 =>
  (quoI .u64 t51_14 t41_9).bind fun v_18 =>
  loopR (fun (z : (Int × Int × Int × Int × Int × Int × Int × Int × Int × Unit) × (Unit)) => bits_Div64_s0 z.1.1 z.1.2.1 z.1.2.2.1 z.1.2.2.2.1 z.1.2.2.2.2.1 z.1.2.2.2.2.2.1 z.1.2.2.2.2.2.2.1 z.1.2.2.2.2.2.2.2.1 z.1.2.2.2.2.2.2.2.2.1) ((v_8, t36_7, t41_9, (bitsI .and .u64 v_8 4294967295), t51_14, (v_15.fdiv (2 ^ 32)), (bitsI .and .u64 v_15 4294967295), v_18, (IntKind.u64.wrap (t51_14 - (IntKind.u64.wrap (v_18 * t41_9)))), ()), ())

/-! ### slices.Index[[]string,string] -/
noncomputable def slices_Index_string_string_s0 (s_0_0 : List (List Int)) (v_1_0 : List Int) (t7_7_0 : Int) (t8_8_0 : Int) : Option ((((List (List Int)) × (List Int) × Int × Int × Unit) × (Unit)) ⊕ ((Int × Unit) × (Unit))) :=
  bif (decide (t8_8_0 < t7_7_0)) then
    (rdI s_0_0 t8_8_0).bind fun v_3 =>
    bif (decide (v_1_0 = v_3)) then
      some (.inr ((t8_8_0, ()), ()))
    else
    some (.inl ((s_0_0, v_1_0, t7_7_0, (IntKind.i64.wrap (t8_8_0 + 1)), ()), ()))
  else
  some (.inr (((-1), ()), ()))
noncomputable def slices_Index_string_string (s_0 : List (List Int)) (v_1 : List Int) : Option ((Int × Unit) × (Unit)) :=
  loopR (fun (z : ((List (List Int)) × (List Int) × Int × Int × Unit) × (Unit)) => slices_Index_string_string_s0 z.1.1 z.1.2.1 z.1.2.2.1 z.1.2.2.2.1) ((s_0, v_1, (s_0.length : Int), 0, ()), ())

/-! ### strings.Join -/
noncomputable abbrev strings_Join := joinF

end Go.L

namespace Go.L
open Go Go.Pv
set_option maxRecDepth 100000

/-! ### shunter/shunterref01.Of -/
noncomputable def ref01_Of_s0 (hi_0_0 : Int) (lo_1_0 : Int) (i_6_0 : Int) (p4_0_0 : List Bool) (p5_0_0 : List Bool) : Option (((Int × Int × Int × Unit) × ((List Bool) × (List Bool) × Unit)) ⊕ (((List Bool) × Unit) × (Unit))) :=
  bif (decide (i_6_0 < 64)) then
    (Option.map (fun _ => i_6_0) (ckI i_6_0 128)).bind fun v_4 =>
    (stI p5_0_0 v_4 (decide ((lo_1_0.tmod 2) = 1))).bind fun v_5 =>
    let t17_6 : Int := IntKind.i64.wrap (i_6_0 + 64)
    (Option.map (fun _ => t17_6) (ckI t17_6 128)).bind fun v_9 =>
    (stI v_5 v_9 (decide ((hi_0_0.tmod 2) = 1))).bind fun v_10 =>
    some (.inl (((IntKind.u64.wrap (hi_0_0.tdiv 2)), (IntKind.u64.wrap (lo_1_0.tdiv 2)), (IntKind.i64.wrap (i_6_0 + 1)), ()), p4_0_0, v_10, ()))
  else
  some (.inr ((p5_0_0, ()), ()))
noncomputable def ref01_Of (hi_0 : Int) (lo_1 : Int) : Option (((List Bool) × Unit) × (Unit)) :=
  loopR (fun (z : (Int × Int × Int × Unit) × ((List Bool) × (List Bool) × Unit)) => ref01_Of_s0 z.1.1 z.1.2.1 z.1.2.2.1 z.2.1 z.2.2.1) ((hi_0, lo_1, 0, ()), List.replicate 128 false, List.replicate 128 false, ())

/-! ### shunter/shunterref01.Sum -/
noncomputable def ref01_Sum_s0 (carry_2_0 : Bool) (i_9_0 : Int) (p3_0_0 : List Bool) (p4_0_0 : List Bool) (p6_0_0 : List Bool) (p8_0_0 : List Bool) : Option (((Bool × Int × Unit) × ((List Bool) × (List Bool) × (List Bool) × (List Bool) × Unit)) ⊕ (((List Bool) × Bool × Unit) × (Unit))) :=
  bif (decide (i_9_0 < 128)) then
    (Option.map (fun _ => i_9_0) (ckI i_9_0 128)).bind fun v_2 =>
    (rdI p3_0_0 v_2).bind fun v_3 =>
    bif v_3 then
      let t19_4 : Int := IntKind.i64.wrap (0 + 1)
      (Option.map (fun _ => i_9_0) (ckI i_9_0 128)).bind fun v_5 =>
      (rdI p4_0_0 v_5).bind fun v_6 =>
      bif v_6 then
        let t24_7 : Int := IntKind.i64.wrap (t19_4 + 1)
        bif carry_2_0 then
          let t27_8 : Int := IntKind.i64.wrap (t24_7 + 1)
          (Option.map (fun _ => i_9_0) (ckI i_9_0 128)).bind fun v_11 =>
          (stI p8_0_0 v_11 (decide ((t27_8.tmod 2) = 1))).bind fun v_12 =>
          some (.inl (((decide (t27_8 ≥ 2)), (IntKind.i64.wrap (i_9_0 + 1)), ()), p3_0_0, p4_0_0, p6_0_0, v_12, ()))
        else
        (Option.map (fun _ => i_9_0) (ckI i_9_0 128)).bind fun v_17 =>
        (stI p8_0_0 v_17 (decide ((t24_7.tmod 2) = 1))).bind fun v_18 =>
        some (.inl (((decide (t24_7 ≥ 2)), (IntKind.i64.wrap (i_9_0 + 1)), ()), p3_0_0, p4_0_0, p6_0_0, v_18, ()))
      else
      bif carry_2_0 then
        let t27_21 : Int := IntKind.i64.wrap (t19_4 + 1)
        (Option.map (fun _ => i_9_0) (ckI i_9_0 128)).bind fun v_24 =>
        (stI p8_0_0 v_24 (decide ((t27_21.tmod 2) = 1))).bind fun v_25 =>
        some (.inl (((decide (t27_21 ≥ 2)), (IntKind.i64.wrap (i_9_0 + 1)), ()), p3_0_0, p4_0_0, p6_0_0, v_25, ()))
      else
      (Option.map (fun _ => i_9_0) (ckI i_9_0 128)).bind fun v_30 =>
      (stI p8_0_0 v_30 (decide ((t19_4.tmod 2) = 1))).bind fun v_31 =>
      some (.inl (((decide (t19_4 ≥ 2)), (IntKind.i64.wrap (i_9_0 + 1)), ()), p3_0_0, p4_0_0, p6_0_0, v_31, ()))
    else
    (Option.map (fun _ => i_9_0) (ckI i_9_0 128)).bind fun v_34 =>
    (rdI p4_0_0 v_34).bind fun v_35 =>
    bif v_35 then
      let t24_36 : Int := IntKind.i64.wrap (0 + 1)
      bif carry_2_0 then
        let t27_37 : Int := IntKind.i64.wrap (t24_36 + 1)
        (Option.map (fun _ => i_9_0) (ckI i_9_0 128)).bind fun v_40 =>
        (stI p8_0_0 v_40 (decide ((t27_37.tmod 2) = 1))).bind fun v_41 =>
        some (.inl (((decide (t27_37 ≥ 2)), (IntKind.i64.wrap (i_9_0 + 1)), ()), p3_0_0, p4_0_0, p6_0_0, v_41, ()))
      else
      (Option.map (fun _ => i_9_0) (ckI i_9_0 128)).bind fun v_46 =>
      (stI p8_0_0 v_46 (decide ((t24_36.tmod 2) = 1))).bind fun v_47 =>
      some (.inl (((decide (t24_36 ≥ 2)), (IntKind.i64.wrap (i_9_0 + 1)), ()), p3_0_0, p4_0_0, p6_0_0, v_47, ()))
    else
    bif carry_2_0 then
      let t27_50 : Int := IntKind.i64.wrap (0 + 1)
      (Option.map (fun _ => i_9_0) (ckI i_9_0 128)).bind fun v_53 =>
      (stI p8_0_0 v_53 (decide ((t27_50.tmod 2) = 1))).bind fun v_54 =>
      some (.inl (((decide (t27_50 ≥ 2)), (IntKind.i64.wrap (i_9_0 + 1)), ()), p3_0_0, p4_0_0, p6_0_0, v_54, ()))
    else
    (Option.map (fun _ => i_9_0) (ckI i_9_0 128)).bind fun v_59 =>
    (stI p8_0_0 v_59 (decide (((0 : Int).tmod 2) = 1))).bind fun v_60 =>
    some (.inl (((decide ((0 : Int) ≥ 2)), (IntKind.i64.wrap (i_9_0 + 1)), ()), p3_0_0, p4_0_0, p6_0_0, v_60, ()))
  else
  some (.inr ((p8_0_0, carry_2_0, ()), ()))
noncomputable def ref01_Sum (a_0 : List Bool) (b_1 : List Bool) (carry_2 : Bool) : Option (((List Bool) × Bool × Unit) × (Unit)) :=
  loopR (fun (z : (Bool × Int × Unit) × ((List Bool) × (List Bool) × (List Bool) × (List Bool) × Unit)) => ref01_Sum_s0 z.1.1 z.1.2.1 z.2.1 z.2.2.1 z.2.2.2.1 z.2.2.2.2.1) ((carry_2, 0, ()), a_0, b_1, List.replicate 128 false, List.replicate 128 false, ())

/-! ### shunter/word.Sub -/
noncomputable def word_Sub (a_0 : Int × Int × Unit) (b_1 : Int × Int × Unit) : Option (((Int × Int × Unit) × Bool × Unit) × (Unit)) :=
  (bits_Sub64 a_0.2.1 b_1.2.1 0).bind fun r_1 =>
  (bits_Sub64 a_0.1 b_1.1 r_1.1.2.1).bind fun r_2 =>
  some (((r_2.1.1, r_1.1.1, ()), (decide (r_2.1.2.1 > 0)), ()), ())

/-! ### shunter/shunterref01.Turned -/
noncomputable def ref01_Turned_s0 (i_4_0 : Int) (p1_0_0 : List Bool) (p2_0_0 : List Bool) (p3_0_0 : List Bool) : Option (((Int × Unit) × ((List Bool) × (List Bool) × (List Bool) × Unit)) ⊕ (((List Bool) × Unit) × (Unit))) :=
  bif (decide (i_4_0 < 128)) then
    (Option.map (fun _ => i_4_0) (ckI i_4_0 128)).bind fun v_2 =>
    (rdI p1_0_0 v_2).bind fun v_3 =>
    (Option.map (fun _ => i_4_0) (ckI i_4_0 128)).bind fun v_4 =>
    (stI p3_0_0 v_4 (!v_3)).bind fun v_5 =>
    some (.inl (((IntKind.i64.wrap (i_4_0 + 1)), ()), p1_0_0, p2_0_0, v_5, ()))
  else
  some (.inr ((p3_0_0, ()), ()))
noncomputable def ref01_Turned (a_0 : List Bool) : Option (((List Bool) × Unit) × (Unit)) :=
  loopR (fun (z : (Int × Unit) × ((List Bool) × (List Bool) × (List Bool) × Unit)) => ref01_Turned_s0 z.1.1 z.2.1 z.2.2.1 z.2.2.2.1) ((0, ()), a_0, List.replicate 128 false, List.replicate 128 false, ())

/-! ### shunter/shunterref01.Less -/
noncomputable def ref01_Less_s0 (i_5_0 : Int) (p2_0_0 : List Bool) (p3_0_0 : List Bool) : Option (((Int × Unit) × ((List Bool) × (List Bool) × Unit)) ⊕ ((Bool × Unit) × (Unit))) :=
  bif (decide (i_5_0 ≥ 0)) then
    (Option.map (fun _ => i_5_0) (ckI i_5_0 128)).bind fun v_2 =>
    (rdI p2_0_0 v_2).bind fun v_3 =>
    (Option.map (fun _ => i_5_0) (ckI i_5_0 128)).bind fun v_4 =>
    (rdI p3_0_0 v_4).bind fun v_5 =>
    bif (!(decide (v_3 = v_5))) then
      (Option.map (fun _ => i_5_0) (ckI i_5_0 128)).bind fun v_7 =>
      (rdI p3_0_0 v_7).bind fun v_8 =>
      some (.inr ((v_8, ()), ()))
    else
    some (.inl (((IntKind.i64.wrap (i_5_0 - 1)), ()), p2_0_0, p3_0_0, ()))
  else
  some (.inr ((false, ()), ()))
noncomputable def ref01_Less (a_0 : List Bool) (b_1 : List Bool) : Option ((Bool × Unit) × (Unit)) :=
  loopR (fun (z : (Int × Unit) × ((List Bool) × (List Bool) × Unit)) => ref01_Less_s0 z.1.1 z.2.1 z.2.2.1) ((127, ()), a_0, b_1, ())

/-! ### shunter/shunterref01.Minus -/
noncomputable def ref01_Minus (a_0 : List Bool) (b_1 : List Bool) : Option (((List Bool) × Bool × Unit) × (Unit)) :=
  (ref01_Turned b_1).bind fun r_1 =>
  (ref01_Sum a_0 r_1.1.1 true).bind fun r_2 =>
  (ref01_Less a_0 b_1).bind fun r_3 =>
  some ((r_2.1.1, r_3.1.1, ()), ())

/-! ### shunter/word.based -/
noncomputable def word_based (base_0 : Int) : Option ((Bool × Unit) × (Unit)) :=
  let t4_1 : Bool := decide (base_0 ≥ 2)
  guardR t4_1 (some ()) () fun _ =>
  guardR t4_1 (some (decide (base_0 ≤ 16))) false fun v_2 =>
  some (((bif t4_1 then v_2 else false), ()), ())

/-! ### shunter/word.Div -/
noncomputable def word_Div (a_0 : Int × Int × Unit) (d_1 : Int) : Option (((Int × Int × Unit) × Int × Bool × Unit) × (Unit)) :=
  bif (decide (d_1 = 0)) then
    some (((0, 0, ()), 0, false, ()), ())
  else
  (quoI .u64 a_0.1 d_1).bind fun v_2 =>
  (remI a_0.1 d_1).bind fun v_3 =>
  (bits_Div64 v_3 a_0.2.1 d_1).bind fun r_4 =>
  some (((v_2, r_4.1.1, ()), r_4.1.2.1, true, ()), ())

/-! ### shunter/word.Text -/
noncomputable def word_Text_s2 (b_5_2 : List Int) (t37_37_2 : Int) (t38_38_2 : Int) : Option ((((List Int) × Int × Int × Unit) × (Unit)) ⊕ (((List Int) × Unit) × (Unit))) :=
  bif (decide (t38_38_2 < t37_37_2)) then
    let t48_15 : Int := IntKind.i64.wrap ((IntKind.i64.wrap ((b_5_2.length : Int) - 1)) - t38_38_2)
    let t54_18 : Int := IntKind.i64.wrap ((IntKind.i64.wrap ((b_5_2.length : Int) - 1)) - t38_38_2)
    (Option.map (fun _ => t54_18) (ckI t54_18 b_5_2.length)).bind fun v_19 =>
    (rdI b_5_2 v_19).bind fun v_20 =>
    (Option.map (fun _ => t38_38_2) (ckI t38_38_2 b_5_2.length)).bind fun v_21 =>
    (rdI b_5_2 v_21).bind fun v_22 =>
    (Option.map (fun _ => t38_38_2) (ckI t38_38_2 b_5_2.length)).bind fun v_23 =>
    (stI b_5_2 v_23 v_20).bind fun v_24 =>
    (Option.map (fun _ => t48_15) (ckI t48_15 v_24.length)).bind fun v_25 =>
    (stI v_24 v_25 v_22).bind fun v_26 =>
    some (.inl ((v_26, t37_37_2, (IntKind.i64.wrap (t38_38_2 + 1)), ()), ()))
  else
  some (.inr ((b_5_2, ()), ()))
noncomputable def word_Text_s0 (base_1_0 : Int) (b_5_0 : List Int) (p2_0_0 : Int × Int × Unit) : Option (((Int × (List Int) × Unit) × ((Int × Int × Unit) × Unit)) ⊕ (((List Int) × Unit) × (Unit))) :=
  let t15_2 : Bool := !(decide (p2_0_0.1 = 0) && decide (p2_0_0.2.1 = 0))
  guardR (!t15_2) (some ()) () fun _ =>
  guardR (!t15_2) (some (b_5_0.length : Int)) 0 fun v_3 =>
  guardR (!t15_2) (some (decide (v_3 = 0))) false fun v_4 =>
  bif (bif t15_2 then true else v_4) then
    (word_Div (p2_0_0.1, p2_0_0.2.1, ()) (IntKind.u64.wrap base_1_0)).bind fun r_7 =>
    (rdI [48, 49, 50, 51, 52, 53, 54, 55, 56, 57, 97, 98, 99, 100, 101, 102] r_7.1.2.1).bind fun v_8 =>
    (roomI 1 b_5_0 [v_8]).bind fun v_9 =>
    some (.inl ((base_1_0, v_9, ()), r_7.1.1, ()))
  else
  (loopR (fun (z : ((List Int) × Int × Int × Unit) × (Unit)) => word_Text_s2 z.1.1 z.1.2.1 z.1.2.2.1) ((b_5_0, (IntKind.i64.wrap ((b_5_0.length : Int).tdiv 2)), 0, ()), ())).map .inr
noncomputable def word_Text (a_0 : Int × Int × Unit) (base_1 : Int) : Option (((List Int) × Unit) × (Unit)) :=
  (word_based base_1).bind fun r_1 =>
  bif !r_1.1.1 then
    some (([], ()), ())
  else
  loopR (fun (z : (Int × (List Int) × Unit) × ((Int × Int × Unit) × Unit)) => word_Text_s0 z.1.1 z.1.2.1 z.2.1) ((base_1, [], ()), (a_0.1, a_0.2.1, ()), ())

/-! ### shunter/shunterref01.Moved -/
noncomputable def ref01_Moved_s0 (n_1_0 : Int) (i_6_0 : Int) (p2_0_0 : List Bool) (p4_0_0 : List Bool) (p5_0_0 : List Bool) : Option (((Int × Int × Unit) × ((List Bool) × (List Bool) × (List Bool) × Unit)) ⊕ (((List Bool) × Unit) × (Unit))) :=
  bif (decide (i_6_0 < 128)) then
    let t12_2 : Bool := decide (n_1_0 > (-128))
    guardR t12_2 (some ()) () fun _ =>
    guardR t12_2 (some (decide (n_1_0 < 128))) false fun v_3 =>
    let t16_4 : Bool := bif t12_2 then v_3 else false
    guardR t16_4 (some ()) () fun _ =>
    guardR t16_4 (some ()) () fun _ =>
    guardR t16_4 (some (IntKind.i64.wrap (i_6_0 - n_1_0))) 0 fun v_5 =>
    guardR t16_4 (some (decide (v_5 ≥ 0))) false fun v_6 =>
    let t22_7 : Bool := bif t16_4 then v_6 else false
    guardR t22_7 (some ()) () fun _ =>
    guardR t22_7 (some ()) () fun _ =>
    guardR t22_7 (some (IntKind.i64.wrap (i_6_0 - n_1_0))) 0 fun v_8 =>
    guardR t22_7 (some (decide (v_8 < 128))) false fun v_9 =>
    bif (bif t22_7 then v_9 else false) then
      let t32_11 : Int := IntKind.i64.wrap (i_6_0 - n_1_0)
      (Option.map (fun _ => t32_11) (ckI t32_11 128)).bind fun v_12 =>
      (rdI p2_0_0 v_12).bind fun v_13 =>
      (Option.map (fun _ => i_6_0) (ckI i_6_0 128)).bind fun v_14 =>
      (stI p5_0_0 v_14 v_13).bind fun v_15 =>
      some (.inl ((n_1_0, (IntKind.i64.wrap (i_6_0 + 1)), ()), p2_0_0, p4_0_0, v_15, ()))
    else
    some (.inl ((n_1_0, (IntKind.i64.wrap (i_6_0 + 1)), ()), p2_0_0, p4_0_0, p5_0_0, ()))
  else
  some (.inr ((p5_0_0, ()), ()))
noncomputable def ref01_Moved (a_0 : List Bool) (n_1 : Int) : Option (((List Bool) × Unit) × (Unit)) :=
  loopR (fun (z : (Int × Int × Unit) × ((List Bool) × (List Bool) × (List Bool) × Unit)) => ref01_Moved_s0 z.1.1 z.1.2.1 z.2.1 z.2.2.1 z.2.2.2.1) ((n_1, 0, ()), a_0, List.replicate 128 false, List.replicate 128 false, ())

/-! ### shunter/shunterref01.Part -/
noncomputable def ref01_Part_s0 (i_8_0 : Int) (p2_0_0 : List Bool) (p3_0_0 : List Bool) (p4_0_0 : List Bool) (p5_0_0 : List Bool) (p6_0_0 : List Bool) (p7_0_0 : List Bool) : Option (((Int × Unit) × ((List Bool) × (List Bool) × (List Bool) × (List Bool) × (List Bool) × (List Bool) × Unit)) ⊕ (((List Bool) × (List Bool) × Unit) × (Unit))) :=
  bif (decide (i_8_0 ≥ 0)) then
    (Option.map (fun _ => 127) (ckI 127 128)).bind fun v_2 =>
    (rdI p7_0_0 v_2).bind fun v_3 =>
    (ref01_Moved p7_0_0 1).bind fun r_4 =>
    (Option.map (fun _ => i_8_0) (ckI i_8_0 128)).bind fun v_5 =>
    (rdI p2_0_0 v_5).bind fun v_6 =>
    (Option.map (fun _ => 0) (ckI 0 128)).bind fun v_7 =>
    (stI r_4.1.1 v_7 v_6).bind fun v_8 =>
    guardR (!v_3) (some v_8) (List.replicate 128 false) fun v_9 =>
    guardR (!v_3) (some p3_0_0) (List.replicate 128 false) fun v_10 =>
    guardR (!v_3) (ref01_Less v_9 v_10) ((false, ()), ()) fun r_11 =>
    guardR (!v_3) (some ()) () fun _ =>
    bif (bif v_3 then true else !r_11.1.1) then
      (ref01_Minus v_8 p3_0_0).bind fun r_13 =>
      (Option.map (fun _ => i_8_0) (ckI i_8_0 128)).bind fun v_14 =>
      (stI p6_0_0 v_14 true).bind fun v_15 =>
      some (.inl (((IntKind.i64.wrap (i_8_0 - 1)), ()), p2_0_0, p3_0_0, p4_0_0, p5_0_0, v_15, r_13.1.1, ()))
    else
    some (.inl (((IntKind.i64.wrap (i_8_0 - 1)), ()), p2_0_0, p3_0_0, p4_0_0, p5_0_0, p6_0_0, v_8, ()))
  else
  some (.inr ((p6_0_0, p7_0_0, ()), ()))
noncomputable def ref01_Part (a_0 : List Bool) (d_1 : List Bool) : Option (((List Bool) × (List Bool) × Unit) × (Unit)) :=
  loopR (fun (z : (Int × Unit) × ((List Bool) × (List Bool) × (List Bool) × (List Bool) × (List Bool) × (List Bool) × Unit)) => ref01_Part_s0 z.1.1 z.2.1 z.2.2.1 z.2.2.2.1 z.2.2.2.2.1 z.2.2.2.2.2.1 z.2.2.2.2.2.2.1) ((127, ()), a_0, d_1, List.replicate 128 false, List.replicate 128 false, List.replicate 128 false, List.replicate 128 false, ())

/-! ### shunter/word.And -/
noncomputable def word_And (a_0 : Int × Int × Unit) (b_1 : Int × Int × Unit) : Option (((Int × Int × Unit) × Unit) × (Unit)) :=
  some ((((bitsI .and .u64 a_0.1 b_1.1), (bitsI .and .u64 a_0.2.1 b_1.2.1), ()), ()), ())

/-! ### shunter/word.Not -/
noncomputable def word_Not (a_0 : Int × Int × Unit) : Option (((Int × Int × Unit) × Unit) × (Unit)) :=
  some ((((bitsI .xor .u64 IntKind.u64.max a_0.1), (bitsI .xor .u64 IntKind.u64.max a_0.2.1), ()), ()), ())

/-! ### functions that call each other -/
/-! ### shunter/word.Shl -/
noncomputable def word_Shl_g (word_Shl : (Int × Int × Unit) → Int → Option (((Int × Int × Unit) × Unit) × (Unit))) (word_Shr : (Int × Int × Unit) → Int → Option (((Int × Int × Unit) × Unit) × (Unit))) (a_0 : Int × Int × Unit) (n_1 : Int) : Option (((Int × Int × Unit) × Unit) × (Unit)) :=
  let t7_1 : Bool := decide (n_1 ≤ (-128))
  guardR (!t7_1) (some ()) () fun _ =>
  guardR (!t7_1) (some (decide (n_1 ≥ 128))) false fun v_2 =>
  bif (bif t7_1 then true else v_2) then
    some (((0, 0, ()), ()), ())
  else
  bif (decide (n_1 < 0)) then
    (word_Shr (a_0.1, a_0.2.1, ()) (IntKind.i64.wrap (0 - n_1))).bind fun r_6 =>
    some ((r_6.1.1, ()), ())
  else
  bif (decide (n_1 = 0)) then
    some (((a_0.1, a_0.2.1, ()), ()), ())
  else
  bif (decide (n_1 ≥ 64)) then
    (shlI .u64 a_0.2.1 (IntKind.i64.wrap (n_1 - 64))).bind fun v_10 =>
    some (((v_10, 0, ()), ()), ())
  else
  (shlI .u64 a_0.1 n_1).bind fun v_11 =>
  (shrI .u64 a_0.2.1 (IntKind.i64.wrap (64 - n_1))).bind fun v_13 =>
  (shlI .u64 a_0.2.1 n_1).bind fun v_15 =>
  some ((((bitsI .or .u64 v_11 v_13), v_15, ()), ()), ())
/-! ### shunter/word.Shr -/
noncomputable def word_Shr_g (word_Shl : (Int × Int × Unit) → Int → Option (((Int × Int × Unit) × Unit) × (Unit))) (word_Shr : (Int × Int × Unit) → Int → Option (((Int × Int × Unit) × Unit) × (Unit))) (a_0 : Int × Int × Unit) (n_1 : Int) : Option (((Int × Int × Unit) × Unit) × (Unit)) :=
  let t7_1 : Bool := decide (n_1 ≤ (-128))
  guardR (!t7_1) (some ()) () fun _ =>
  guardR (!t7_1) (some (decide (n_1 ≥ 128))) false fun v_2 =>
  bif (bif t7_1 then true else v_2) then
    some (((0, 0, ()), ()), ())
  else
  bif (decide (n_1 < 0)) then
    (word_Shl (a_0.1, a_0.2.1, ()) (IntKind.i64.wrap (0 - n_1))).bind fun r_6 =>
    some ((r_6.1.1, ()), ())
  else
  bif (decide (n_1 = 0)) then
    some (((a_0.1, a_0.2.1, ()), ()), ())
  else
  bif (decide (n_1 ≥ 64)) then
    (shrI .u64 a_0.1 (IntKind.i64.wrap (n_1 - 64))).bind fun v_10 =>
    some (((0, v_10, ()), ()), ())
  else
  (shrI .u64 a_0.1 n_1).bind fun v_11 =>
  (shrI .u64 a_0.2.1 n_1).bind fun v_12 =>
  (shlI .u64 a_0.1 (IntKind.i64.wrap (64 - n_1))).bind fun v_14 =>
  some (((v_11, (bitsI .or .u64 v_12 v_14), ()), ()), ())
noncomputable def word_Shr_lv : Nat → ((Int × Int × Unit) → Int → Option (((Int × Int × Unit) × Unit) × (Unit))) × ((Int × Int × Unit) → Int → Option (((Int × Int × Unit) × Unit) × (Unit)))
  | 0 => (fun _ _ => none, fun _ _ => none)
  | k + 1 => (word_Shl_g ((word_Shr_lv k).1) ((word_Shr_lv k).2), word_Shr_g ((word_Shr_lv k).1) ((word_Shr_lv k).2))
noncomputable def word_Shl : (Int × Int × Unit) → Int → Option (((Int × Int × Unit) × Unit) × (Unit)) := (word_Shr_lv 3).1
noncomputable def word_Shr : (Int × Int × Unit) → Int → Option (((Int × Int × Unit) × Unit) × (Unit)) := (word_Shr_lv 3).2

/-! ### shunter/word.Ones -/
noncomputable def word_Ones (n_0 : Int) : Option (((Int × Int × Unit) × Unit) × (Unit)) :=
  bif (decide (n_0 ≤ 0)) then
    some (((0, 0, ()), ()), ())
  else
  bif (decide (n_0 ≥ 128)) then
    (word_Not (0, 0, ())).bind fun r_3 =>
    some ((r_3.1.1, ()), ())
  else
  (word_Shl (0, 1, ()) n_0).bind fun r_4 =>
  (word_Sub r_4.1.1 (0, 1, ())).bind fun r_5 =>
  some ((r_5.1.1, ()), ())

/-! ### shunter/word.Len -/
noncomputable def word_Len (a_0 : Int × Int × Unit) : Option ((Int × Unit) × (Unit)) :=
  bif (decide (a_0.1 > 0)) then
    (bits_Len64 a_0.1).bind fun r_2 =>
    some (((IntKind.i64.wrap (64 + r_2.1.1)), ()), ())
  else
  (bits_Len64 a_0.2.1).bind fun r_4 =>
  some ((r_4.1.1, ()), ())

/-! ### shunter/shunterref01.Len -/
noncomputable def ref01_Len_s0 (i_3_0 : Int) (p1_0_0 : List Bool) : Option (((Int × Unit) × ((List Bool) × Unit)) ⊕ ((Int × Unit) × (Unit))) :=
  bif (decide (i_3_0 ≥ 0)) then
    (Option.map (fun _ => i_3_0) (ckI i_3_0 128)).bind fun v_2 =>
    (rdI p1_0_0 v_2).bind fun v_3 =>
    bif v_3 then
      some (.inr (((IntKind.i64.wrap (i_3_0 + 1)), ()), ()))
    else
    some (.inl (((IntKind.i64.wrap (i_3_0 - 1)), ()), p1_0_0, ()))
  else
  some (.inr ((0, ()), ()))
noncomputable def ref01_Len (a_0 : List Bool) : Option ((Int × Unit) × (Unit)) :=
  loopR (fun (z : (Int × Unit) × ((List Bool) × Unit)) => ref01_Len_s0 z.1.1 z.2.1) ((127, ()), a_0, ())

/-! ### shunter/shunterref01.small -/
noncomputable def ref01_small (n_0 : Int) : Option (((List Bool) × Unit) × (Unit)) :=
  (ref01_Of 0 (IntKind.u64.wrap n_0)).bind fun r_2 =>
  some ((r_2.1.1, ()), ())

/-! ### shunter/shunterref01.Halves -/
noncomputable def ref01_Halves_s0 (hi_4_0 : Int) (lo_5_0 : Int) (i_6_0 : Int) (p1_0_0 : List Bool) : Option (((Int × Int × Int × Unit) × ((List Bool) × Unit)) ⊕ ((Int × Int × Unit) × (Unit))) :=
  bif (decide (i_6_0 ≥ 0)) then
    let t12_2 : Int := IntKind.u64.wrap (2 * hi_4_0)
    let t14_3 : Int := IntKind.u64.wrap (2 * lo_5_0)
    let t16_4 : Int := IntKind.i64.wrap (i_6_0 + 64)
    (Option.map (fun _ => t16_4) (ckI t16_4 128)).bind fun v_5 =>
    (rdI p1_0_0 v_5).bind fun v_6 =>
    bif v_6 then
      let t20_7 : Int := IntKind.u64.wrap (t12_2 + 1)
      (Option.map (fun _ => i_6_0) (ckI i_6_0 128)).bind fun v_8 =>
      (rdI p1_0_0 v_8).bind fun v_9 =>
      bif v_9 then
        some (.inl ((t20_7, (IntKind.u64.wrap (t14_3 + 1)), (IntKind.i64.wrap (i_6_0 - 1)), ()), p1_0_0, ()))
      else
      some (.inl ((t20_7, t14_3, (IntKind.i64.wrap (i_6_0 - 1)), ()), p1_0_0, ()))
    else
    (Option.map (fun _ => i_6_0) (ckI i_6_0 128)).bind fun v_13 =>
    (rdI p1_0_0 v_13).bind fun v_14 =>
    bif v_14 then
      some (.inl ((t12_2, (IntKind.u64.wrap (t14_3 + 1)), (IntKind.i64.wrap (i_6_0 - 1)), ()), p1_0_0, ()))
    else
    some (.inl ((t12_2, t14_3, (IntKind.i64.wrap (i_6_0 - 1)), ()), p1_0_0, ()))
  else
  some (.inr ((hi_4_0, lo_5_0, ()), ()))
noncomputable def ref01_Halves (r_0 : List Bool) : Option ((Int × Int × Unit) × (Unit)) :=
  loopR (fun (z : (Int × Int × Int × Unit) × ((List Bool) × Unit)) => ref01_Halves_s0 z.1.1 z.1.2.1 z.1.2.2.1 z.2.1) ((0, 0, 63, ()), r_0, ())

/-! ### shunter/shunterref01.Text -/
noncomputable def ref01_Text_s0 (base_1_0 : Int) (s_5_0 : List Int) (p2_0_0 : List Bool) : Option (((Int × (List Int) × Unit) × ((List Bool) × Unit)) ⊕ (((List Int) × Unit) × (Unit))) :=
  (ref01_Len p2_0_0).bind fun r_1 =>
  let t12_2 : Bool := decide (r_1.1.1 > 0)
  guardR (!t12_2) (some ()) () fun _ =>
  guardR (!t12_2) (some (decide (s_5_0 = []))) false fun v_3 =>
  bif (bif t12_2 then true else v_3) then
    (ref01_small base_1_0).bind fun r_5 =>
    (ref01_Part p2_0_0 r_5.1.1).bind fun r_6 =>
    (ref01_Halves r_6.1.2.1).bind fun r_7 =>
    (subL [48, 49, 50, 51, 52, 53, 54, 55, 56, 57, 97, 98, 99, 100, 101, 102] r_7.1.2.1 (IntKind.u64.wrap (r_7.1.2.1 + 1))).bind fun v_9 =>
    (catI v_9 s_5_0).bind fun v_10 =>
    some (.inl ((base_1_0, v_10, ()), r_6.1.1, ()))
  else
  some (.inr ((s_5_0, ()), ()))
noncomputable def ref01_Text (a_0 : List Bool) (base_1 : Int) : Option (((List Int) × Unit) × (Unit)) :=
  loopR (fun (z : (Int × (List Int) × Unit) × ((List Bool) × Unit)) => ref01_Text_s0 z.1.1 z.1.2.1 z.2.1) ((base_1, [], ()), a_0, ())

end Go.L

namespace Go.L
open Go Go.Pv
set_option maxRecDepth 100000

/-! ### shunter/vec.width -/
noncomputable def vec_width (w_0 : Int) : Option ((Bool × Unit) × (Unit)) :=
  let t4_1 : Bool := decide (w_0 ≥ 1)
  guardR t4_1 (some ()) () fun _ =>
  guardR t4_1 (some (decide (w_0 ≤ 128))) false fun v_2 =>
  some (((bif t4_1 then v_2 else false), ()), ())

/-! ### shunter/vec.Word -/
noncomputable def vec_Word (v_0 : Int × Int × Int × Unit) : Option (((Int × Int × Unit) × Unit) × (Unit)) :=
  some (((v_0.2.1, v_0.2.2.1, ()), ()), ())

/-! ### shunter/vec.May -/
noncomputable def vec_May (v_0 : Int × Int × Int × Unit) : Option ((Bool × Unit) × (Unit)) :=
  (vec_width v_0.1).bind fun r_1 =>
  guardR r_1.1.1 (some (v_0.1, v_0.2.1, v_0.2.2.1, ())) (0, 0, 0, ()) fun v_2 =>
  guardR r_1.1.1 (vec_Word v_2) (((0, 0, ()), ()), ()) fun r_3 =>
  guardR r_1.1.1 (word_Len r_3.1.1) ((0, ()), ()) fun r_4 =>
  guardR r_1.1.1 (some ()) () fun _ =>
  guardR r_1.1.1 (some v_0.1) 0 fun v_5 =>
  guardR r_1.1.1 (some (decide (r_4.1.1 ≤ v_5))) false fun v_6 =>
  some (((bif r_1.1.1 then v_6 else false), ()), ())

/-! ### shunter/shunterref02.Bits -/
noncomputable def ref02_Bits_s0 (l_4_0 : List Bool) (i_5_0 : Int) (p1_0_0 : Int × Int × Int × Unit) (p3_0_0 : List Bool) : Option ((((List Bool) × Int × Unit) × ((Int × Int × Int × Unit) × (List Bool) × Unit)) ⊕ (((List Bool) × Unit) × (Unit))) :=
  let t14_2 : Bool := decide (i_5_0 < p1_0_0.1)
  guardR t14_2 (some ()) () fun _ =>
  guardR t14_2 (some (decide (i_5_0 < 128))) false fun v_3 =>
  bif (bif t14_2 then v_3 else false) then
    (Option.map (fun _ => i_5_0) (ckI i_5_0 128)).bind fun v_5 =>
    (rdI p3_0_0 v_5).bind fun v_6 =>
    (roomI 1 l_4_0 [v_6]).bind fun v_7 =>
    some (.inl ((v_7, (IntKind.i64.wrap (i_5_0 + 1)), ()), (p1_0_0.1, p1_0_0.2.1, p1_0_0.2.2.1, ()), p3_0_0, ()))
  else
  some (.inr ((l_4_0, ()), ()))
noncomputable def ref02_Bits (v_0 : Int × Int × Int × Unit) : Option (((List Bool) × Unit) × (Unit)) :=
  (ref01_Of v_0.2.1 v_0.2.2.1).bind fun r_1 =>
  loopR (fun (z : ((List Bool) × Int × Unit) × ((Int × Int × Int × Unit) × (List Bool) × Unit)) => ref02_Bits_s0 z.1.1 z.1.2.1 z.2.1 z.2.2.1) (([], 0, ()), (v_0.1, v_0.2.1, v_0.2.2.1, ()), r_1.1.1, ())

/-! ### shunter/shunterref02.May -/
noncomputable def ref02_May (v_0 : Int × Int × Int × Unit) : Option ((Bool × Unit) × (Unit)) :=
  let t5_1 : Bool := decide (v_0.1 ≥ 1)
  guardR t5_1 (some ()) () fun _ =>
  guardR t5_1 (some v_0.1) 0 fun v_2 =>
  guardR t5_1 (some (decide (v_2 ≤ 128))) false fun v_3 =>
  let t10_4 : Bool := bif t5_1 then v_3 else false
  guardR t10_4 (some ()) () fun _ =>
  guardR t10_4 (some v_0.2.1) 0 fun v_5 =>
  guardR t10_4 (some ()) () fun _ =>
  guardR t10_4 (some v_0.2.2.1) 0 fun v_6 =>
  guardR t10_4 (ref01_Of v_5 v_6) ((List.replicate 128 false, ()), ()) fun r_7 =>
  guardR t10_4 (ref01_Len r_7.1.1) ((0, ()), ()) fun r_8 =>
  guardR t10_4 (some ()) () fun _ =>
  guardR t10_4 (some v_0.1) 0 fun v_9 =>
  guardR t10_4 (some (decide (r_8.1.1 ≤ v_9))) false fun v_10 =>
  some (((bif t10_4 then v_10 else false), ()), ())

/-! ### shunter/vec.row -/
noncomputable def vec_row (w_0 : Int) (x_1 : Int × Int × Unit) : Option (((Int × Int × Int × Unit) × Unit) × (Unit)) :=
  some (((w_0, x_1.1, x_1.2.1, ()), ()), ())

/-! ### shunter/vec.Cut -/
noncomputable def vec_Cut (w_0 : Int) (x_1 : Int × Int × Unit) : Option (((Int × Int × Int × Unit) × Int × Unit) × (Unit)) :=
  (vec_width w_0).bind fun r_1 =>
  bif !r_1.1.1 then
    some (((0, 0, 0, ()), 9, ()), ())
  else
  (word_Ones w_0).bind fun r_2 =>
  (word_And (x_1.1, x_1.2.1, ()) r_2.1.1).bind fun r_3 =>
  (vec_row w_0 r_3.1.1).bind fun r_4 =>
  some ((r_4.1.1, 0, ()), ())

/-! ### shunter/vec.Slice -/
noncomputable def vec_Slice (a_0 : Int × Int × Int × Unit) (hi_1 : Int) (lo_2 : Int) : Option (((Int × Int × Int × Unit) × Int × Unit) × (Unit)) :=
  (vec_May (a_0.1, a_0.2.1, a_0.2.2.1, ())).bind fun r_1 =>
  bif !r_1.1.1 then
    some (((0, 0, 0, ()), 1, ()), ())
  else
  let t15_2 : Bool := decide (lo_2 < 0)
  guardR (!t15_2) (some ()) () fun _ =>
  guardR (!t15_2) (some ()) () fun _ =>
  guardR (!t15_2) (some (decide (lo_2 > hi_1))) false fun v_3 =>
  let t20_4 : Bool := bif t15_2 then true else v_3
  guardR (!t20_4) (some ()) () fun _ =>
  guardR (!t20_4) (some ()) () fun _ =>
  guardR (!t20_4) (some a_0.1) 0 fun v_5 =>
  guardR (!t20_4) (some (decide (hi_1 ≥ v_5))) false fun v_6 =>
  bif (bif t20_4 then true else v_6) then
    some (((0, 0, 0, ()), 7, ()), ())
  else
  (vec_Word (a_0.1, a_0.2.1, a_0.2.2.1, ())).bind fun r_10 =>
  (word_Shr r_10.1.1 lo_2).bind fun r_11 =>
  (vec_Cut (IntKind.i64.wrap ((IntKind.i64.wrap (hi_1 - lo_2)) + 1)) r_11.1.1).bind fun r_12 =>
  some ((r_12.1.1, r_12.1.2.1, ()), ())

/-! ### shunter/shunterref02.Of -/
noncomputable def ref02_Of_s0 (l_0_0 : List Bool) (i_4_0 : Int) (p2_0_0 : Int × Int × Int × Unit) (p3_0_0 : List Bool) : Option ((((List Bool) × Int × Unit) × ((Int × Int × Int × Unit) × (List Bool) × Unit)) ⊕ (((Int × Int × Int × Unit) × Unit) × (Unit))) :=
  let t10_2 : Bool := decide (i_4_0 < (l_0_0.length : Int))
  guardR t10_2 (some ()) () fun _ =>
  guardR t10_2 (some (decide (i_4_0 < 128))) false fun v_3 =>
  bif (bif t10_2 then v_3 else false) then
    (rdI l_0_0 i_4_0).bind fun v_5 =>
    (Option.map (fun _ => i_4_0) (ckI i_4_0 128)).bind fun v_6 =>
    (stI p3_0_0 v_6 v_5).bind fun v_7 =>
    some (.inl ((l_0_0, (IntKind.i64.wrap (i_4_0 + 1)), ()), (p2_0_0.1, p2_0_0.2.1, p2_0_0.2.2.1, ()), v_7, ()))
  else
  ((ref01_Halves p3_0_0).bind fun r_9 =>
  some ((((l_0_0.length : Int), r_9.1.1, r_9.1.2.1, ()), ()), ())).map .inr
noncomputable def ref02_Of (l_0 : List Bool) : Option (((Int × Int × Int × Unit) × Unit) × (Unit)) :=
  loopR (fun (z : ((List Bool) × Int × Unit) × ((Int × Int × Int × Unit) × (List Bool) × Unit)) => ref02_Of_s0 z.1.1 z.1.2.1 z.2.1 z.2.2.1) ((l_0, 0, ()), (0, 0, 0, ()), List.replicate 128 false, ())

/-! ### shunter/shunterref02.Slice -/
noncomputable def ref02_Slice (a_0 : Int × Int × Int × Unit) (hi_1 : Int) (lo_2 : Int) : Option (((Int × Int × Int × Unit) × Int × Unit) × (Unit)) :=
  (ref02_May (a_0.1, a_0.2.1, a_0.2.2.1, ())).bind fun r_1 =>
  bif !r_1.1.1 then
    some (((0, 0, 0, ()), 1, ()), ())
  else
  let t13_2 : Bool := decide (lo_2 < 0)
  guardR (!t13_2) (some ()) () fun _ =>
  guardR (!t13_2) (some ()) () fun _ =>
  guardR (!t13_2) (some (decide (lo_2 > hi_1))) false fun v_3 =>
  let t18_4 : Bool := bif t13_2 then true else v_3
  guardR (!t18_4) (some ()) () fun _ =>
  guardR (!t18_4) (some ()) () fun _ =>
  guardR (!t18_4) (some a_0.1) 0 fun v_5 =>
  guardR (!t18_4) (some (decide (hi_1 ≥ v_5))) false fun v_6 =>
  bif (bif t18_4 then true else v_6) then
    some (((0, 0, 0, ()), 7, ()), ())
  else
  (ref02_Bits (a_0.1, a_0.2.1, a_0.2.2.1, ())).bind fun r_8 =>
  (subL r_8.1.1 lo_2 (IntKind.i64.wrap (hi_1 + 1))).bind fun v_10 =>
  (ref02_Of v_10).bind fun r_11 =>
  some ((r_11.1.1, 0, ()), ())

/-! ### shunter/vec.Text -/
noncomputable def vec_Text (a_0 : Int × Int × Int × Unit) : Option (((List Int) × Unit) × (Unit)) :=
  (vec_May (a_0.1, a_0.2.1, a_0.2.2.1, ())).bind fun r_1 =>
  bif !r_1.1.1 then
    some (([], ()), ())
  else
  (word_Text (0, (IntKind.u64.wrap a_0.1), ()) 10).bind fun r_3 =>
  (catI r_3.1.1 [39]).bind fun v_4 =>
  (vec_Word (a_0.1, a_0.2.1, a_0.2.2.1, ())).bind fun r_5 =>
  (word_Text r_5.1.1 16).bind fun r_6 =>
  (catI v_4 r_6.1.1).bind fun v_7 =>
  some ((v_7, ()), ())

/-! ### shunter/shunterref02.Text -/
noncomputable def ref02_Text (a_0 : Int × Int × Int × Unit) : Option (((List Int) × Unit) × (Unit)) :=
  (ref02_May (a_0.1, a_0.2.1, a_0.2.2.1, ())).bind fun r_1 =>
  bif !r_1.1.1 then
    some (([], ()), ())
  else
  (ref01_Of 0 (IntKind.u64.wrap a_0.1)).bind fun r_3 =>
  (ref01_Text r_3.1.1 10).bind fun r_4 =>
  (catI r_4.1.1 [39]).bind fun v_5 =>
  (ref01_Of a_0.2.1 a_0.2.2.1).bind fun r_6 =>
  (ref01_Text r_6.1.1 16).bind fun r_7 =>
  (catI v_5 r_7.1.1).bind fun v_8 =>
  some ((v_8, ()), ())

end Go.L

namespace Go.L
open Go Go.Pv
set_option maxRecDepth 100000

/-! ### shunter/shunterref09.Table -/
noncomputable def ref09_Table : Option (((List ((List Int) × Int × Int × Int × (List Int) × (List Int) × (List Int) × Unit)) × Unit) × (Unit)) :=
  some (([([112, 117, 115, 104], 0, 1, 0, List.replicate 2 0, List.replicate 2 0, [80, 117, 115, 104], ()), ([102, 105, 101, 108, 100], 0, 1, 2, [0, 31], [0, 15], [80, 108, 97, 99, 101], ()), ([109, 101, 116, 97], 0, 1, 1, [0, 23], [0, 0], [67, 101, 108, 108], ()), ([112, 97, 114, 97, 109], 0, 1, 1, [0, 7], [0, 0], [67, 101, 108, 108], ()), ([118, 97, 108, 105, 100], 0, 1, 1, [0, 31], [0, 0], [83, 108, 111, 116], ()), ([114, 101, 103], 1, 1, 1, [0, 7], [0, 0], [67, 101, 108, 108], ()), ([110, 111, 116], 1, 1, 0, List.replicate 2 0, List.replicate 2 0, [79, 110, 101], ()), ([110, 101, 103], 1, 1, 0, List.replicate 2 0, List.replicate 2 0, [79, 110, 101], ()), ([115, 104, 108], 1, 1, 1, [0, 128], [0, 0], [79, 110, 101], ()), ([115, 104, 114], 1, 1, 1, [0, 128], [0, 0], [79, 110, 101], ()), ([115, 108, 105, 99, 101], 1, 1, 2, [0, 127], [0, 127], [80, 97, 114, 116], ()), ([99, 97, 115, 116], 1, 1, 1, [1, 128], [0, 0], [79, 110, 101], ()), ([97, 100, 100], 2, 1, 0, List.replicate 2 0, List.replicate 2 0, [84, 119, 111], ()), ([115, 117, 98], 2, 1, 0, List.replicate 2 0, List.replicate 2 0, [84, 119, 111], ()), ([97, 100, 100, 45, 115, 97, 116], 2, 1, 0, List.replicate 2 0, List.replicate 2 0, [84, 119, 111], ()), ([115, 117, 98, 45, 115, 97, 116], 2, 1, 0, List.replicate 2 0, List.replicate 2 0, [84, 119, 111], ()), ([97, 110, 100], 2, 1, 0, List.replicate 2 0, List.replicate 2 0, [84, 119, 111], ()), ([111, 114], 2, 1, 0, List.replicate 2 0, List.replicate 2 0, [84, 119, 111], ()), ([120, 111, 114], 2, 1, 0, List.replicate 2 0, List.replicate 2 0, [84, 119, 111], ()), ([99, 97, 116], 2, 1, 0, List.replicate 2 0, List.replicate 2 0, [84, 119, 111], ()), ([101, 113], 2, 1, 0, List.replicate 2 0, List.replicate 2 0, [84, 119, 111], ()), ([108, 101, 115, 115], 2, 1, 0, List.replicate 2 0, List.replicate 2 0, [84, 119, 111], ()), ([112, 117, 116, 45, 102, 105, 101, 108, 100], 1, 0, 2, [0, 31], [0, 15], [80, 108, 97, 99, 101], ()), ([112, 117, 116, 45, 109, 101, 116, 97], 1, 0, 1, [0, 23], [0, 0], [67, 101, 108, 108], ()), ([112, 117, 116, 45, 114, 101, 103], 2, 0, 1, [0, 7], [0, 0], [67, 101, 108, 108], ()), ([115, 104, 111, 119], 0, 0, 1, [0, 31], [0, 0], [83, 108, 111, 116], ()), ([104, 105, 100, 101], 0, 0, 1, [0, 31], [0, 0], [83, 108, 111, 116], ()), ([112, 117, 115, 104, 45, 104, 101, 97, 100], 0, 0, 2, [0, 15], [1, 4], [72, 101, 97, 100, 115], ()), ([112, 111, 112, 45, 104, 101, 97, 100], 0, 0, 2, [0, 15], [1, 4], [72, 101, 97, 100, 115], ()), ([99, 111, 117, 110, 116], 1, 0, 1, [0, 7], [0, 0], [67, 101, 108, 108], ()), ([109, 101, 116, 101, 114], 1, 1, 1, [0, 7], [0, 0], [67, 101, 108, 108], ()), ([106, 117, 109, 112], 0, 0, 1, [0, 64], [0, 0], [74, 117, 109, 112], ()), ([106, 117, 109, 112, 45, 122, 101, 114, 111], 1, 0, 1, [0, 64], [0, 0], [74, 117, 109, 112], ()), ([106, 117, 109, 112, 45, 103, 111, 110, 101], 0, 0, 2, [0, 31], [0, 64], [71, 111, 110, 101], ()), ([115, 116, 111, 112], 0, 0, 0, List.replicate 2 0, List.replicate 2 0, [83, 116, 111, 112], ())], ()), ())

/-! ### shunter/code.names -/
noncomputable def code_names : Option (((List (List Int)) × Unit) × (Unit)) :=
  some (([[112, 117, 115, 104], [102, 105, 101, 108, 100], [109, 101, 116, 97], [112, 97, 114, 97, 109], [118, 97, 108, 105, 100], [114, 101, 103], [110, 111, 116], [110, 101, 103], [115, 104, 108], [115, 104, 114], [115, 108, 105, 99, 101], [99, 97, 115, 116], [97, 100, 100], [115, 117, 98], [97, 100, 100, 45, 115, 97, 116], [115, 117, 98, 45, 115, 97, 116], [97, 110, 100], [111, 114], [120, 111, 114], [99, 97, 116], [101, 113], [108, 101, 115, 115], [112, 117, 116, 45, 102, 105, 101, 108, 100], [112, 117, 116, 45, 109, 101, 116, 97], [112, 117, 116, 45, 114, 101, 103], [115, 104, 111, 119], [104, 105, 100, 101], [112, 117, 115, 104, 45, 104, 101, 97, 100], [112, 111, 112, 45, 104, 101, 97, 100], [99, 111, 117, 110, 116], [109, 101, 116, 101, 114], [106, 117, 109, 112], [106, 117, 109, 112, 45, 122, 101, 114, 111], [106, 117, 109, 112, 45, 103, 111, 110, 101], [115, 116, 111, 112]], ()), ())

/-! ### shunter/code.Find -/
noncomputable def code_Find (s_0 : List Int) : Option ((Int × Bool × Unit) × (Unit)) :=
  code_names.bind fun r_1 =>
  (slices_Index_string_string r_1.1.1 s_0).bind fun r_2 =>
  some (((maxI r_2.1.1 0), (decide (r_2.1.1 ≥ 0)), ()), ())

/-! ### shunter/code.known -/
noncomputable def code_known (o_0 : Int) : Option ((Bool × Unit) × (Unit)) :=
  let t4_1 : Bool := decide (o_0 ≥ 0)
  guardR t4_1 (some ()) () fun _ =>
  guardR t4_1 (some (decide (o_0 < 35))) false fun v_2 =>
  some (((bif t4_1 then v_2 else false), ()), ())

/-! ### shunter/code.Name -/
noncomputable def code_Name (o_0 : Int) : Option (((List Int) × Unit) × (Unit)) :=
  (code_known o_0).bind fun r_1 =>
  bif !r_1.1.1 then
    some (([], ()), ())
  else
  code_names.bind fun r_2 =>
  (Option.map (fun _ => o_0) (ckI o_0 r_2.1.1.length)).bind fun v_3 =>
  (rdI r_2.1.1 v_3).bind fun v_4 =>
  some ((v_4, ()), ())

/-! ### shunter/code.both -/
noncomputable def code_both (to_0 : Int) (least_1 : Int) (most_2 : Int) (takes_3 : Int) (puts_4 : Int) : Option (((Bool × Bool × Int × Int × Int × Int × Int × Int × Unit) × Unit) × (Unit)) :=
  some (((true, true, 0, to_0, least_1, most_2, takes_3, puts_4, ()), ()), ())

/-! ### shunter/code.alone -/
noncomputable def code_alone (from_0 : Int) (to_1 : Int) (takes_2 : Int) (puts_3 : Int) : Option (((Bool × Bool × Int × Int × Int × Int × Int × Int × Unit) × Unit) × (Unit)) :=
  some (((true, false, from_0, to_1, 0, 0, takes_2, puts_3, ()), ()), ())

/-! ### shunter/code.shapeOf -/
noncomputable def code_shapeOf (o_0 : Int) : Option (((Bool × Bool × Int × Int × Int × Int × Int × Int × Unit) × Unit) × (Unit)) :=
  bif (decide (o_0 = 0)) then
    some (((false, false, 0, 0, 0, 0, 0, 1, ()), ()), ())
  else
  bif (decide (o_0 = 1)) then
    (code_both 31 0 15 0 1).bind fun r_3 =>
    some ((r_3.1.1, ()), ())
  else
  bif (decide (o_0 = 22)) then
    (code_both 31 0 15 1 0).bind fun r_5 =>
    some ((r_5.1.1, ()), ())
  else
  bif (decide (o_0 = 2)) then
    (code_alone 0 23 0 1).bind fun r_7 =>
    some ((r_7.1.1, ()), ())
  else
  bif (decide (o_0 = 23)) then
    (code_alone 0 23 1 0).bind fun r_9 =>
    some ((r_9.1.1, ()), ())
  else
  bif (decide (o_0 = 3)) then
    (code_alone 0 7 0 1).bind fun r_11 =>
    some ((r_11.1.1, ()), ())
  else
  bif (decide (o_0 = 4)) then
    (code_alone 0 31 0 1).bind fun r_13 =>
    some ((r_13.1.1, ()), ())
  else
  bif (decide (o_0 = 25)) then
    (code_alone 0 31 0 0).bind fun r_15 =>
    some ((r_15.1.1, ()), ())
  else
  bif (decide (o_0 = 26)) then
    (code_alone 0 31 0 0).bind fun r_17 =>
    some ((r_17.1.1, ()), ())
  else
  bif (decide (o_0 = 5)) then
    (code_alone 0 7 1 1).bind fun r_19 =>
    some ((r_19.1.1, ()), ())
  else
  bif (decide (o_0 = 30)) then
    (code_alone 0 7 1 1).bind fun r_21 =>
    some ((r_21.1.1, ()), ())
  else
  bif (decide (o_0 = 24)) then
    (code_alone 0 7 2 0).bind fun r_23 =>
    some ((r_23.1.1, ()), ())
  else
  bif (decide (o_0 = 29)) then
    (code_alone 0 7 1 0).bind fun r_25 =>
    some ((r_25.1.1, ()), ())
  else
  bif (decide (o_0 = 8)) then
    (code_alone 0 128 1 1).bind fun r_27 =>
    some ((r_27.1.1, ()), ())
  else
  bif (decide (o_0 = 9)) then
    (code_alone 0 128 1 1).bind fun r_29 =>
    some ((r_29.1.1, ()), ())
  else
  bif (decide (o_0 = 11)) then
    (code_alone 1 128 1 1).bind fun r_31 =>
    some ((r_31.1.1, ()), ())
  else
  bif (decide (o_0 = 10)) then
    (code_both 127 0 127 1 1).bind fun r_33 =>
    some ((r_33.1.1, ()), ())
  else
  bif (decide (o_0 = 27)) then
    (code_both 15 1 4 0 0).bind fun r_35 =>
    some ((r_35.1.1, ()), ())
  else
  bif (decide (o_0 = 28)) then
    (code_both 15 1 4 0 0).bind fun r_37 =>
    some ((r_37.1.1, ()), ())
  else
  bif (decide (o_0 = 31)) then
    (code_alone 0 64 0 0).bind fun r_39 =>
    some ((r_39.1.1, ()), ())
  else
  bif (decide (o_0 = 32)) then
    (code_alone 0 64 1 0).bind fun r_41 =>
    some ((r_41.1.1, ()), ())
  else
  bif (decide (o_0 = 33)) then
    (code_both 31 0 64 0 0).bind fun r_43 =>
    some ((r_43.1.1, ()), ())
  else
  bif (decide (o_0 = 6)) then
    some (((false, false, 0, 0, 0, 0, 1, 1, ()), ()), ())
  else
  bif (decide (o_0 = 7)) then
    some (((false, false, 0, 0, 0, 0, 1, 1, ()), ()), ())
  else
  bif (decide (o_0 = 34)) then
    some (((false, false, 0, 0, 0, 0, 0, 0, ()), ()), ())
  else
  some (((false, false, 0, 0, 0, 0, 2, 1, ()), ()), ())

/-! ### shunter/code.Effect -/
noncomputable def code_Effect (o_0 : Int) : Option ((Int × Int × Unit) × (Unit)) :=
  (code_known o_0).bind fun r_1 =>
  bif !r_1.1.1 then
    some ((0, 0, ()), ())
  else
  (code_shapeOf o_0).bind fun r_2 =>
  some ((r_2.1.1.2.2.2.2.2.2.1, r_2.1.1.2.2.2.2.2.2.2.1, ()), ())

/-! ### shunter/code.digits -/
noncomputable def code_digits (n_0 : Int) : Option (((List Int) × Unit) × (Unit)) :=
  bif (decide (n_0 < 0)) then
    (word_Text (0, (IntKind.u64.wrap (0 - (IntKind.u64.wrap n_0))), ()) 10).bind fun r_4 =>
    (catI [45] r_4.1.1).bind fun v_5 =>
    some ((v_5, ()), ())
  else
  (word_Text (0, (IntKind.u64.wrap n_0), ()) 10).bind fun r_7 =>
  some ((r_7.1.1, ()), ())

/-! ### shunter/code.Text -/
noncomputable def code_Text (x_0 : Int × Int × Int × (Int × Int × Int × Unit) × Unit) : Option (((List Int) × Unit) × (Unit)) :=
  (code_known x_0.1).bind fun r_1 =>
  bif !r_1.1.1 then
    some (([], ()), ())
  else
  (code_Name x_0.1).bind fun r_2 =>
  (code_shapeOf x_0.1).bind fun r_3 =>
  bif (decide (x_0.1 = 0)) then
    (vec_Text (x_0.2.2.2.1.1, x_0.2.2.2.1.2.1, x_0.2.2.2.1.2.2.1, ())).bind fun r_5 =>
    (roomI 16 [r_2.1.1] [r_5.1.1]).bind fun v_6 =>
    bif r_3.1.1.1 then
      (code_digits x_0.2.1).bind fun r_7 =>
      (roomI 16 v_6 [r_7.1.1]).bind fun v_8 =>
      bif r_3.1.1.2.1 then
        (code_digits x_0.2.2.1).bind fun r_9 =>
        (roomI 16 v_8 [r_9.1.1]).bind fun v_10 =>
        (strings_Join v_10 [32]).bind fun r_11 =>
        some ((r_11.1.1, ()), ())
      else
      (strings_Join v_8 [32]).bind fun r_12 =>
      some ((r_12.1.1, ()), ())
    else
    bif r_3.1.1.2.1 then
      (code_digits x_0.2.2.1).bind fun r_13 =>
      (roomI 16 v_6 [r_13.1.1]).bind fun v_14 =>
      (strings_Join v_14 [32]).bind fun r_15 =>
      some ((r_15.1.1, ()), ())
    else
    (strings_Join v_6 [32]).bind fun r_16 =>
    some ((r_16.1.1, ()), ())
  else
  bif r_3.1.1.1 then
    (code_digits x_0.2.1).bind fun r_17 =>
    (roomI 16 [r_2.1.1] [r_17.1.1]).bind fun v_18 =>
    bif r_3.1.1.2.1 then
      (code_digits x_0.2.2.1).bind fun r_19 =>
      (roomI 16 v_18 [r_19.1.1]).bind fun v_20 =>
      (strings_Join v_20 [32]).bind fun r_21 =>
      some ((r_21.1.1, ()), ())
    else
    (strings_Join v_18 [32]).bind fun r_22 =>
    some ((r_22.1.1, ()), ())
  else
  bif r_3.1.1.2.1 then
    (code_digits x_0.2.2.1).bind fun r_23 =>
    (roomI 16 [r_2.1.1] [r_23.1.1]).bind fun v_24 =>
    (strings_Join v_24 [32]).bind fun r_25 =>
    some ((r_25.1.1, ()), ())
  else
  (strings_Join [r_2.1.1] [32]).bind fun r_26 =>
  some ((r_26.1.1, ()), ())

/-! ### shunter/shunterref09.Digits -/
noncomputable def ref09_Digits (n_0 : Int) : Option (((List Int) × Unit) × (Unit)) :=
  bif (decide (n_0 < 0)) then
    (ref01_Of 0 (IntKind.u64.wrap (0 - (IntKind.u64.wrap n_0)))).bind fun r_4 =>
    (ref01_Text r_4.1.1 10).bind fun r_5 =>
    (catI [45] r_5.1.1).bind fun v_6 =>
    some ((v_6, ()), ())
  else
  (ref01_Of 0 (IntKind.u64.wrap n_0)).bind fun r_8 =>
  (ref01_Text r_8.1.1 10).bind fun r_9 =>
  some ((r_9.1.1, ()), ())

/-! ### shunter/shunterref09.Text -/
noncomputable def ref09_Text (x_0 : Int × Int × Int × (Int × Int × Int × Unit) × Unit) : Option (((List Int) × Unit) × (Unit)) :=
  let t7_1 : Bool := decide (x_0.1 < 0)
  guardR (!t7_1) (some ()) () fun _ =>
  guardR (!t7_1) (some x_0.1) 0 fun v_2 =>
  guardR (!t7_1) (some (decide (v_2 > 34))) false fun v_3 =>
  bif (bif t7_1 then true else v_3) then
    some (([], ()), ())
  else
  ref09_Table.bind fun r_5 =>
  (Option.map (fun _ => x_0.1) (ckI x_0.1 r_5.1.1.length)).bind fun v_6 =>
  (rdI r_5.1.1 v_6).bind fun v_7 =>
  bif (decide (v_7.1 = [112, 117, 115, 104])) then
    (catI v_7.1 [32]).bind fun v_9 =>
    (ref02_Text (x_0.2.2.2.1.1, x_0.2.2.2.1.2.1, x_0.2.2.2.1.2.2.1, ())).bind fun r_10 =>
    (catI v_9 r_10.1.1).bind fun v_11 =>
    some ((v_11, ()), ())
  else
  bif (decide (v_7.2.2.2.1 ≥ 1)) then
    (catI v_7.1 [32]).bind fun v_13 =>
    (ref09_Digits x_0.2.1).bind fun r_14 =>
    (catI v_13 r_14.1.1).bind fun v_15 =>
    bif (decide (v_7.2.2.2.1 = 2)) then
      (catI v_15 [32]).bind fun v_17 =>
      (ref09_Digits x_0.2.2.1).bind fun r_18 =>
      (catI v_17 r_18.1.1).bind fun v_19 =>
      some ((v_19, ()), ())
    else
    some ((v_15, ()), ())
  else
  bif (decide (v_7.2.2.2.1 = 2)) then
    (catI v_7.1 [32]).bind fun v_21 =>
    (ref09_Digits x_0.2.2.1).bind fun r_22 =>
    (catI v_21 r_22.1.1).bind fun v_23 =>
    some ((v_23, ()), ())
  else
  some ((v_7.1, ()), ())

/-! ### shunter/code.within -/
noncomputable def code_within (n_0 : Int) (lo_1 : Int) (hi_2 : Int) : Option ((Bool × Unit) × (Unit)) :=
  let t9_1 : Bool := decide (n_0 ≥ lo_1)
  guardR t9_1 (some ()) () fun _ =>
  guardR t9_1 (some ()) () fun _ =>
  guardR t9_1 (some (decide (n_0 ≤ hi_2))) false fun v_2 =>
  some (((bif t9_1 then v_2 else false), ()), ())

/-! ### shunter/code.May -/
noncomputable def code_May (x_0 : Int × Int × Int × (Int × Int × Int × Unit) × Unit) : Option ((Int × Unit) × (Unit)) :=
  (code_known x_0.1).bind fun r_1 =>
  bif !r_1.1.1 then
    some ((10, ()), ())
  else
  (code_shapeOf x_0.1).bind fun r_2 =>
  (code_within x_0.2.1 r_2.1.1.2.2.1 r_2.1.1.2.2.2.1).bind fun r_3 =>
  guardR (!(!r_3.1.1)) (some ()) () fun _ =>
  guardR (!(!r_3.1.1)) (some x_0.2.2.1) 0 fun v_4 =>
  guardR (!(!r_3.1.1)) (some ()) () fun _ =>
  guardR (!(!r_3.1.1)) (some r_2.1.1.2.2.2.2.1) 0 fun v_5 =>
  guardR (!(!r_3.1.1)) (some ()) () fun _ =>
  guardR (!(!r_3.1.1)) (some r_2.1.1.2.2.2.2.2.1) 0 fun v_6 =>
  guardR (!(!r_3.1.1)) (code_within v_4 v_5 v_6) ((false, ()), ()) fun r_7 =>
  guardR (!(!r_3.1.1)) (some ()) () fun _ =>
  let t29_8 : Bool := bif !r_3.1.1 then true else !r_7.1.1
  guardR (!t29_8) (some ()) () fun _ =>
  guardR (!t29_8) (some x_0.1) 0 fun v_9 =>
  guardR (!t29_8) (some (decide (v_9 = 10))) false fun v_10 =>
  guardR (!t29_8) (some ()) () fun _ =>
  guardR ((!t29_8) && v_10) (some ()) () fun _ =>
  guardR ((!t29_8) && v_10) (some x_0.2.2.1) 0 fun v_11 =>
  guardR ((!t29_8) && v_10) (some ()) () fun _ =>
  guardR ((!t29_8) && v_10) (some x_0.2.1) 0 fun v_12 =>
  guardR ((!t29_8) && v_10) (some (decide (v_11 > v_12))) false fun v_13 =>
  guardR (!t29_8) (some ()) () fun _ =>
  bif (bif t29_8 then true else (bif v_10 then v_13 else false)) then
    some ((7, ()), ())
  else
  let t45_16 : Bool := decide (x_0.1 = 0)
  guardR t45_16 (some ()) () fun _ =>
  guardR t45_16 (some (x_0.2.2.2.1.1, x_0.2.2.2.1.2.1, x_0.2.2.2.1.2.2.1, ())) (0, 0, 0, ()) fun v_17 =>
  guardR t45_16 (vec_May v_17) ((false, ()), ()) fun r_18 =>
  guardR t45_16 (some ()) () fun _ =>
  let t51_19 : Bool := bif t45_16 then !r_18.1.1 else false
  guardR (!t51_19) (some ()) () fun _ =>
  guardR (!t51_19) (some x_0.1) 0 fun v_20 =>
  guardR (!t51_19) (some (!decide (v_20 = 0))) false fun v_21 =>
  guardR (!t51_19) (some ()) () fun _ =>
  guardR ((!t51_19) && v_21) (some ()) () fun _ =>
  guardR ((!t51_19) && v_21) (some (x_0.2.2.2.1.1, x_0.2.2.2.1.2.1, x_0.2.2.2.1.2.2.1, ())) (0, 0, 0, ()) fun v_22 =>
  guardR ((!t51_19) && v_21) (some ()) () fun _ =>
  guardR ((!t51_19) && v_21) (some ()) () fun _ =>
  guardR (!t51_19) (some ()) () fun _ =>
  bif (bif t51_19 then true else (bif v_21 then (!(decide (v_22.1 = 0) && (decide (v_22.2.1 = 0) && decide (v_22.2.2.1 = 0)))) else false)) then
    some ((1, ()), ())
  else
  some ((0, ()), ())

/-! ### shunter/code.Make -/
noncomputable def code_Make (x_0 : Int × Int × Int × (Int × Int × Int × Unit) × Unit) : Option (((((Int × Int × Int × Unit) × Unit) ⊕ ((Int × Int × Int × Unit) ⊕ ((Int × Int × Unit) ⊕ ((Int × Int × Unit) ⊕ ((Int × Int × Unit) ⊕ ((Int × Int × Int × Unit) ⊕ ((Int × Int × Unit) ⊕ ((Int × Unit) ⊕ ((Int × Int × Unit) ⊕ ((Int × Int × Unit) ⊕ (Unit ⊕ Unit))))))))))) × Int × Unit) × (Unit)) :=
  (code_May (x_0.1, x_0.2.1, x_0.2.2.1, (x_0.2.2.2.1.1, x_0.2.2.2.1.2.1, x_0.2.2.2.1.2.2.1, ()), ())).bind fun r_1 =>
  bif (!decide (r_1.1.1 = 0)) then
    some ((.inr (.inr (.inr (.inr (.inr (.inr (.inr (.inr (.inr (.inr (.inr ())))))))))), r_1.1.1, ()), ())
  else
  bif (decide (x_0.1 = 0)) then
    some ((.inl ((x_0.2.2.2.1.1, x_0.2.2.2.1.2.1, x_0.2.2.2.1.2.2.1, ()), ()), 0, ()), ())
  else
  bif (decide (x_0.1 = 1)) then
    some ((.inr (.inl (x_0.1, x_0.2.1, x_0.2.2.1, ())), 0, ()), ())
  else
  bif (decide (x_0.1 = 22)) then
    some ((.inr (.inl (x_0.1, x_0.2.1, x_0.2.2.1, ())), 0, ()), ())
  else
  bif (decide (x_0.1 = 2)) then
    some ((.inr (.inr (.inl (x_0.1, x_0.2.1, ()))), 0, ()), ())
  else
  bif (decide (x_0.1 = 23)) then
    some ((.inr (.inr (.inl (x_0.1, x_0.2.1, ()))), 0, ()), ())
  else
  bif (decide (x_0.1 = 3)) then
    some ((.inr (.inr (.inl (x_0.1, x_0.2.1, ()))), 0, ()), ())
  else
  bif (decide (x_0.1 = 5)) then
    some ((.inr (.inr (.inl (x_0.1, x_0.2.1, ()))), 0, ()), ())
  else
  bif (decide (x_0.1 = 24)) then
    some ((.inr (.inr (.inl (x_0.1, x_0.2.1, ()))), 0, ()), ())
  else
  bif (decide (x_0.1 = 29)) then
    some ((.inr (.inr (.inl (x_0.1, x_0.2.1, ()))), 0, ()), ())
  else
  bif (decide (x_0.1 = 30)) then
    some ((.inr (.inr (.inl (x_0.1, x_0.2.1, ()))), 0, ()), ())
  else
  bif (decide (x_0.1 = 4)) then
    some ((.inr (.inr (.inr (.inr (.inr (.inr (.inr (.inr (.inl (x_0.1, x_0.2.1, ()))))))))), 0, ()), ())
  else
  bif (decide (x_0.1 = 25)) then
    some ((.inr (.inr (.inr (.inr (.inr (.inr (.inr (.inr (.inl (x_0.1, x_0.2.1, ()))))))))), 0, ()), ())
  else
  bif (decide (x_0.1 = 26)) then
    some ((.inr (.inr (.inr (.inr (.inr (.inr (.inr (.inr (.inl (x_0.1, x_0.2.1, ()))))))))), 0, ()), ())
  else
  bif (decide (x_0.1 = 6)) then
    some ((.inr (.inr (.inr (.inl (x_0.1, x_0.2.1, ())))), 0, ()), ())
  else
  bif (decide (x_0.1 = 7)) then
    some ((.inr (.inr (.inr (.inl (x_0.1, x_0.2.1, ())))), 0, ()), ())
  else
  bif (decide (x_0.1 = 8)) then
    some ((.inr (.inr (.inr (.inl (x_0.1, x_0.2.1, ())))), 0, ()), ())
  else
  bif (decide (x_0.1 = 9)) then
    some ((.inr (.inr (.inr (.inl (x_0.1, x_0.2.1, ())))), 0, ()), ())
  else
  bif (decide (x_0.1 = 11)) then
    some ((.inr (.inr (.inr (.inl (x_0.1, x_0.2.1, ())))), 0, ()), ())
  else
  bif (decide (x_0.1 = 10)) then
    some ((.inr (.inr (.inr (.inr (.inl (x_0.2.1, x_0.2.2.1, ()))))), 0, ()), ())
  else
  bif (decide (x_0.1 = 27)) then
    some ((.inr (.inr (.inr (.inr (.inr (.inl (x_0.1, x_0.2.1, x_0.2.2.1, ())))))), 0, ()), ())
  else
  bif (decide (x_0.1 = 28)) then
    some ((.inr (.inr (.inr (.inr (.inr (.inl (x_0.1, x_0.2.1, x_0.2.2.1, ())))))), 0, ()), ())
  else
  bif (decide (x_0.1 = 31)) then
    some ((.inr (.inr (.inr (.inr (.inr (.inr (.inr (.inr (.inr (.inl (x_0.1, x_0.2.1, ())))))))))), 0, ()), ())
  else
  bif (decide (x_0.1 = 32)) then
    some ((.inr (.inr (.inr (.inr (.inr (.inr (.inr (.inr (.inr (.inl (x_0.1, x_0.2.1, ())))))))))), 0, ()), ())
  else
  bif (decide (x_0.1 = 33)) then
    some ((.inr (.inr (.inr (.inr (.inr (.inr (.inl (x_0.2.1, x_0.2.2.1, ()))))))), 0, ()), ())
  else
  bif (decide (x_0.1 = 34)) then
    some ((.inr (.inr (.inr (.inr (.inr (.inr (.inr (.inr (.inr (.inr (.inl ())))))))))), 0, ()), ())
  else
  some ((.inr (.inr (.inr (.inr (.inr (.inr (.inr (.inl (x_0.1, ())))))))), 0, ()), ())

/-! ### shunter/code.All -/
noncomputable def code_All_s0 (l_0_0 : List (Int × Int × Int × (Int × Int × Int × Unit) × Unit)) (out_5_0 : List (((Int × Int × Int × Unit) × Unit) ⊕ ((Int × Int × Int × Unit) ⊕ ((Int × Int × Unit) ⊕ ((Int × Int × Unit) ⊕ ((Int × Int × Unit) ⊕ ((Int × Int × Int × Unit) ⊕ ((Int × Int × Unit) ⊕ ((Int × Unit) ⊕ ((Int × Int × Unit) ⊕ ((Int × Int × Unit) ⊕ (Unit ⊕ Unit)))))))))))) (t14_14_0 : List (Int × Int × Int × (Int × Int × Int × Unit) × Unit)) (t15_15_0 : Int) (t16_16_0 : Int) : Option ((((List (Int × Int × Int × (Int × Int × Int × Unit) × Unit)) × (List (((Int × Int × Int × Unit) × Unit) ⊕ ((Int × Int × Int × Unit) ⊕ ((Int × Int × Unit) ⊕ ((Int × Int × Unit) ⊕ ((Int × Int × Unit) ⊕ ((Int × Int × Int × Unit) ⊕ ((Int × Int × Unit) ⊕ ((Int × Unit) ⊕ ((Int × Int × Unit) ⊕ ((Int × Int × Unit) ⊕ (Unit ⊕ Unit)))))))))))) × (List (Int × Int × Int × (Int × Int × Int × Unit) × Unit)) × Int × Int × Unit) × (Unit)) ⊕ (((List (((Int × Int × Int × Unit) × Unit) ⊕ ((Int × Int × Int × Unit) ⊕ ((Int × Int × Unit) ⊕ ((Int × Int × Unit) ⊕ ((Int × Int × Unit) ⊕ ((Int × Int × Int × Unit) ⊕ ((Int × Int × Unit) ⊕ ((Int × Unit) ⊕ ((Int × Int × Unit) ⊕ ((Int × Int × Unit) ⊕ (Unit ⊕ Unit)))))))))))) × Int × Int × Unit) × (Unit))) :=
  bif (decide (t16_16_0 < t15_15_0)) then
    (rdI t14_14_0 t16_16_0).bind fun v_6 =>
    (code_Make v_6).bind fun r_7 =>
    bif (!decide (r_7.1.2.1 = 0)) then
      some (.inr (([], t16_16_0, r_7.1.2.1, ()), ()))
    else
    (roomI 16 out_5_0 [r_7.1.1]).bind fun v_9 =>
    some (.inl ((l_0_0, v_9, t14_14_0, t15_15_0, (IntKind.i64.wrap (t16_16_0 + 1)), ()), ()))
  else
  (bif (decide ((l_0_0.length : Int) > 64)) then
    some (([], 64, 2, ()), ())
  else
  some ((out_5_0, (out_5_0.length : Int), 0, ()), ())).map .inr
noncomputable def code_All (l_0 : List (Int × Int × Int × (Int × Int × Int × Unit) × Unit)) : Option (((List (((Int × Int × Int × Unit) × Unit) ⊕ ((Int × Int × Int × Unit) ⊕ ((Int × Int × Unit) ⊕ ((Int × Int × Unit) ⊕ ((Int × Int × Unit) ⊕ ((Int × Int × Int × Unit) ⊕ ((Int × Int × Unit) ⊕ ((Int × Unit) ⊕ ((Int × Int × Unit) ⊕ ((Int × Int × Unit) ⊕ (Unit ⊕ Unit)))))))))))) × Int × Int × Unit) × (Unit)) :=
  (subL l_0 0 (minI (l_0.length : Int) 64)).bind fun v_3 =>
  loopR (fun (z : ((List (Int × Int × Int × (Int × Int × Int × Unit) × Unit)) × (List (((Int × Int × Int × Unit) × Unit) ⊕ ((Int × Int × Int × Unit) ⊕ ((Int × Int × Unit) ⊕ ((Int × Int × Unit) ⊕ ((Int × Int × Unit) ⊕ ((Int × Int × Int × Unit) ⊕ ((Int × Int × Unit) ⊕ ((Int × Unit) ⊕ ((Int × Int × Unit) ⊕ ((Int × Int × Unit) ⊕ (Unit ⊕ Unit)))))))))))) × (List (Int × Int × Int × (Int × Int × Int × Unit) × Unit)) × Int × Int × Unit) × (Unit)) => code_All_s0 z.1.1 z.1.2.1 z.1.2.2.1 z.1.2.2.2.1 z.1.2.2.2.2.1) ((l_0, [], v_3, (v_3.length : Int), 0, ()), ())

/-! ### shunter/shunterref09.May -/
noncomputable def ref09_May (x_0 : Int × Int × Int × (Int × Int × Int × Unit) × Unit) : Option ((Int × Unit) × (Unit)) :=
  let t6_1 : Bool := decide (x_0.1 < 0)
  guardR (!t6_1) (some ()) () fun _ =>
  guardR (!t6_1) (some x_0.1) 0 fun v_2 =>
  guardR (!t6_1) (some (decide (v_2 > 34))) false fun v_3 =>
  bif (bif t6_1 then true else v_3) then
    some ((10, ()), ())
  else
  ref09_Table.bind fun r_5 =>
  (Option.map (fun _ => x_0.1) (ckI x_0.1 r_5.1.1.length)).bind fun v_6 =>
  (rdI r_5.1.1 v_6).bind fun v_7 =>
  (Option.map (fun _ => 0) (ckI 0 2)).bind fun v_8 =>
  (rdI v_7.2.2.2.2.1 v_8).bind fun v_9 =>
  let t22_10 : Bool := decide (x_0.2.1 < v_9)
  guardR (!t22_10) (some ()) () fun _ =>
  guardR (!t22_10) (some x_0.2.1) 0 fun v_11 =>
  guardR (!t22_10) (some ()) () fun _ =>
  guardR (!t22_10) (Option.map (fun _ => 1) (ckI 1 2)) 0 fun v_12 =>
  guardR (!t22_10) (rdI v_7.2.2.2.2.1 v_12) 0 fun v_13 =>
  guardR (!t22_10) (some (decide (v_11 > v_13))) false fun v_14 =>
  let t30_15 : Bool := bif t22_10 then true else v_14
  guardR (!t30_15) (some ()) () fun _ =>
  guardR (!t30_15) (some x_0.2.2.1) 0 fun v_16 =>
  guardR (!t30_15) (some ()) () fun _ =>
  guardR (!t30_15) (Option.map (fun _ => 0) (ckI 0 2)) 0 fun v_17 =>
  guardR (!t30_15) (rdI v_7.2.2.2.2.2.1 v_17) 0 fun v_18 =>
  guardR (!t30_15) (some (decide (v_16 < v_18))) false fun v_19 =>
  let t38_20 : Bool := bif t30_15 then true else v_19
  guardR (!t38_20) (some ()) () fun _ =>
  guardR (!t38_20) (some x_0.2.2.1) 0 fun v_21 =>
  guardR (!t38_20) (some ()) () fun _ =>
  guardR (!t38_20) (Option.map (fun _ => 1) (ckI 1 2)) 0 fun v_22 =>
  guardR (!t38_20) (rdI v_7.2.2.2.2.2.1 v_22) 0 fun v_23 =>
  guardR (!t38_20) (some (decide (v_21 > v_23))) false fun v_24 =>
  let t46_25 : Bool := bif t38_20 then true else v_24
  guardR (!t46_25) (some ()) () fun _ =>
  guardR (!t46_25) (some v_7.1) [] fun v_26 =>
  guardR (!t46_25) (some (decide (v_26 = [115, 108, 105, 99, 101]))) false fun v_27 =>
  guardR (!t46_25) (some ()) () fun _ =>
  guardR ((!t46_25) && v_27) (some ()) () fun _ =>
  guardR ((!t46_25) && v_27) (some x_0.2.1) 0 fun v_28 =>
  guardR ((!t46_25) && v_27) (some ()) () fun _ =>
  guardR ((!t46_25) && v_27) (some x_0.2.2.1) 0 fun v_29 =>
  guardR ((!t46_25) && v_27) (some (decide (v_28 < v_29))) false fun v_30 =>
  guardR (!t46_25) (some ()) () fun _ =>
  bif (bif t46_25 then true else (bif v_27 then v_30 else false)) then
    some ((7, ()), ())
  else
  bif (decide (v_7.1 = [112, 117, 115, 104])) then
    (ref02_May (x_0.2.2.2.1.1, x_0.2.2.2.1.2.1, x_0.2.2.2.1.2.2.1, ())).bind fun r_34 =>
    bif !r_34.1.1 then
      some ((1, ()), ())
    else
    some ((0, ()), ())
  else
  bif (!(decide (x_0.2.2.2.1.1 = 0) && (decide (x_0.2.2.2.1.2.1 = 0) && decide (x_0.2.2.2.1.2.2.1 = 0)))) then
    some ((1, ()), ())
  else
  some ((0, ()), ())

/-! ### shunter/code.Target -/
noncomputable def code_Target_f6b (s_0 : ((Int × Int × Int × Unit) × Unit) ⊕ ((Int × Int × Int × Unit) ⊕ ((Int × Int × Unit) ⊕ ((Int × Int × Unit) ⊕ ((Int × Int × Unit) ⊕ ((Int × Int × Int × Unit) ⊕ ((Int × Int × Unit) ⊕ ((Int × Unit) ⊕ ((Int × Int × Unit) ⊕ ((Int × Int × Unit) ⊕ (Unit ⊕ Unit))))))))))) : Option ((Int × Bool × Unit) × (Unit)) :=
  bif ((getAlt9 s_0).isSome) then
    some ((((((getAlt9 s_0).getD (0, 0, ())).2).1), true, ()), ())
  else
  bif ((getAlt6 s_0).isSome) then
    some ((((((getAlt6 s_0).getD (0, 0, ())).2).1), true, ()), ())
  else
  some ((0, false, ()), ())

/-! ### shunter/code.Only -/
noncomputable def code_Only_f6b (s_0 : ((Int × Int × Int × Unit) × Unit) ⊕ ((Int × Int × Int × Unit) ⊕ ((Int × Int × Unit) ⊕ ((Int × Int × Unit) ⊕ ((Int × Int × Unit) ⊕ ((Int × Int × Int × Unit) ⊕ ((Int × Int × Unit) ⊕ ((Int × Unit) ⊕ ((Int × Int × Unit) ⊕ ((Int × Int × Unit) ⊕ (Unit ⊕ Unit))))))))))) : Option ((((Int × Int × Int × Unit) × Unit) × Unit) × (Unit)) :=
  (getAlt0 s_0).bind fun v_1 =>
  some ((v_1, ()), ())

/-! ### shunter/code.plain -/
noncomputable def code_plain_f6b (s_0 : ((Int × Int × Int × Unit) × Unit) ⊕ ((Int × Int × Int × Unit) ⊕ ((Int × Int × Unit) ⊕ ((Int × Int × Unit) ⊕ ((Int × Int × Unit) ⊕ ((Int × Int × Int × Unit) ⊕ ((Int × Int × Unit) ⊕ ((Int × Unit) ⊕ ((Int × Int × Unit) ⊕ ((Int × Int × Unit) ⊕ (Unit ⊕ Unit))))))))))) : Option (((Int × Int × Int × (Int × Int × Int × Unit) × Unit) × Unit) × (Unit)) :=
  bif ((getAlt0 s_0).isSome) then
    some (((0, 0, 0, ((getAlt0 s_0).getD ((0, 0, 0, ()), ())).1, ()), ()), ())
  else
  bif ((getAlt1 s_0).isSome) then
    some ((((((getAlt1 s_0).getD (0, 0, 0, ())).1), ((((getAlt1 s_0).getD (0, 0, 0, ())).2).1), (((((getAlt1 s_0).getD (0, 0, 0, ())).2).2).1), (0, 0, 0, ()), ()), ()), ())
  else
  bif ((getAlt2 s_0).isSome) then
    some ((((((getAlt2 s_0).getD (0, 0, ())).1), ((((getAlt2 s_0).getD (0, 0, ())).2).1), 0, (0, 0, 0, ()), ()), ()), ())
  else
  bif ((getAlt8 s_0).isSome) then
    some ((((((getAlt8 s_0).getD (0, 0, ())).1), ((((getAlt8 s_0).getD (0, 0, ())).2).1), 0, (0, 0, 0, ()), ()), ()), ())
  else
  bif ((getAlt3 s_0).isSome) then
    some ((((((getAlt3 s_0).getD (0, 0, ())).1), ((((getAlt3 s_0).getD (0, 0, ())).2).1), 0, (0, 0, 0, ()), ()), ()), ())
  else
  bif ((getAlt4 s_0).isSome) then
    some (((10, (((getAlt4 s_0).getD (0, 0, ())).1), ((((getAlt4 s_0).getD (0, 0, ())).2).1), (0, 0, 0, ()), ()), ()), ())
  else
  bif ((getAlt7 s_0).isSome) then
    some ((((((getAlt7 s_0).getD (0, ())).1), 0, 0, (0, 0, 0, ()), ()), ()), ())
  else
  bif ((getAlt5 s_0).isSome) then
    some ((((((getAlt5 s_0).getD (0, 0, 0, ())).1), ((((getAlt5 s_0).getD (0, 0, 0, ())).2).1), (((((getAlt5 s_0).getD (0, 0, 0, ())).2).2).1), (0, 0, 0, ()), ()), ()), ())
  else
  bif ((getAlt9 s_0).isSome) then
    some ((((((getAlt9 s_0).getD (0, 0, ())).1), ((((getAlt9 s_0).getD (0, 0, ())).2).1), 0, (0, 0, 0, ()), ()), ()), ())
  else
  bif ((getAlt6 s_0).isSome) then
    some (((33, (((getAlt6 s_0).getD (0, 0, ())).1), ((((getAlt6 s_0).getD (0, 0, ())).2).1), (0, 0, 0, ()), ()), ()), ())
  else
  bif ((getAlt10 s_0).isSome) then
    some (((34, 0, 0, (0, 0, 0, ()), ()), ()), ())
  else
  some (((35, 0, 0, (0, 0, 0, ()), ()), ()), ())

/-! ### shunter/code.alike -/
noncomputable def code_alike_b2d (a_0 : ((Int × Int × Int × Unit) × Unit) ⊕ ((Int × Int × Int × Unit) ⊕ ((Int × Int × Unit) ⊕ ((Int × Int × Unit) ⊕ ((Int × Int × Unit) ⊕ ((Int × Int × Int × Unit) ⊕ ((Int × Int × Unit) ⊕ ((Int × Unit) ⊕ ((Int × Int × Unit) ⊕ ((Int × Int × Unit) ⊕ (Unit ⊕ Unit))))))))))) (b_1 : ((Int × Int × Int × Unit) × Unit) ⊕ ((Int × Int × Int × Unit) ⊕ ((Int × Int × Unit) ⊕ ((Int × Int × Unit) ⊕ ((Int × Int × Unit) ⊕ ((Int × Int × Int × Unit) ⊕ ((Int × Int × Unit) ⊕ ((Int × Unit) ⊕ ((Int × Int × Unit) ⊕ ((Int × Int × Unit) ⊕ (Unit ⊕ Unit))))))))))) : Option ((Bool × Unit) × (Unit)) :=
  bif ((getAlt0 a_0).isSome) then
    some ((((getAlt0 b_1).isSome), ()), ())
  else
  bif ((getAlt1 a_0).isSome) then
    some ((((getAlt1 b_1).isSome), ()), ())
  else
  bif ((getAlt2 a_0).isSome) then
    some ((((getAlt2 b_1).isSome), ()), ())
  else
  bif ((getAlt8 a_0).isSome) then
    some ((((getAlt8 b_1).isSome), ()), ())
  else
  bif ((getAlt3 a_0).isSome) then
    some ((((getAlt3 b_1).isSome), ()), ())
  else
  bif ((getAlt4 a_0).isSome) then
    some ((((getAlt4 b_1).isSome), ()), ())
  else
  bif ((getAlt7 a_0).isSome) then
    some ((((getAlt7 b_1).isSome), ()), ())
  else
  bif ((getAlt5 a_0).isSome) then
    some ((((getAlt5 b_1).isSome), ()), ())
  else
  bif ((getAlt9 a_0).isSome) then
    some ((((getAlt9 b_1).isSome), ()), ())
  else
  bif ((getAlt6 a_0).isSome) then
    some ((((getAlt6 b_1).isSome), ()), ())
  else
  bif ((getAlt10 a_0).isSome) then
    some ((((getAlt10 b_1).isSome), ()), ())
  else
  some ((false, ()), ())

/-! ### shunter/code.Plain -/
noncomputable def code_Plain_127 (s_0 : Unit) : Option (((Int × Int × Int × (Int × Int × Int × Unit) × Unit) × Bool × Unit) × (Unit)) :=
  some (((0, 0, 0, (0, 0, 0, ()), ()), false, ()), ())

/-! ### shunter/code.Plain -/
noncomputable def code_Plain_f6b (s_0 : ((Int × Int × Int × Unit) × Unit) ⊕ ((Int × Int × Int × Unit) ⊕ ((Int × Int × Unit) ⊕ ((Int × Int × Unit) ⊕ ((Int × Int × Unit) ⊕ ((Int × Int × Int × Unit) ⊕ ((Int × Int × Unit) ⊕ ((Int × Unit) ⊕ ((Int × Int × Unit) ⊕ ((Int × Int × Unit) ⊕ (Unit ⊕ Unit))))))))))) : Option (((Int × Int × Int × (Int × Int × Int × Unit) × Unit) × Bool × Unit) × (Unit)) :=
  bif isNil11 s_0 then
    some (((0, 0, 0, (0, 0, 0, ()), ()), false, ()), ())
  else
  (code_plain_f6b s_0).bind fun r_1 =>
  (code_Make r_1.1.1).bind fun r_2 =>
  let t18_3 : Bool := !decide (r_2.1.2.1 = 0)
  guardR (!t18_3) (some ()) () fun _ =>
  guardR (!t18_3) (some ()) () fun _ =>
  guardR (!t18_3) (code_alike_b2d s_0 r_2.1.1) ((false, ()), ()) fun r_4 =>
  guardR (!t18_3) (some ()) () fun _ =>
  bif (bif t18_3 then true else !r_4.1.1) then
    some (((0, 0, 0, (0, 0, 0, ()), ()), false, ()), ())
  else
  some ((r_1.1.1, true, ()), ())

/-! ### (shunter/code.Push).Op -/
noncomputable def code_Push_Op (s_0 : (Int × Int × Int × Unit) × Unit) : Option ((Int × Unit) × (Unit)) :=
  some ((0, ()), ())

/-! ### (shunter/code.Place).Op -/
noncomputable def code_Place_Op (s_0 : Int × Int × Int × Unit) : Option ((Int × Unit) × (Unit)) :=
  some ((s_0.1, ()), ())

/-! ### (shunter/code.Cell).Op -/
noncomputable def code_Cell_Op (s_0 : Int × Int × Unit) : Option ((Int × Unit) × (Unit)) :=
  some ((s_0.1, ()), ())

/-! ### (shunter/code.One).Op -/
noncomputable def code_One_Op (s_0 : Int × Int × Unit) : Option ((Int × Unit) × (Unit)) :=
  some ((s_0.1, ()), ())

/-! ### (shunter/code.Part).Op -/
noncomputable def code_Part_Op (s_0 : Int × Int × Unit) : Option ((Int × Unit) × (Unit)) :=
  some ((10, ()), ())

/-! ### (shunter/code.Heads).Op -/
noncomputable def code_Heads_Op (s_0 : Int × Int × Int × Unit) : Option ((Int × Unit) × (Unit)) :=
  some ((s_0.1, ()), ())

/-! ### (shunter/code.Gone).Op -/
noncomputable def code_Gone_Op (s_0 : Int × Int × Unit) : Option ((Int × Unit) × (Unit)) :=
  some ((33, ()), ())

/-! ### (shunter/code.Two).Op -/
noncomputable def code_Two_Op (s_0 : Int × Unit) : Option ((Int × Unit) × (Unit)) :=
  some ((s_0.1, ()), ())

/-! ### (shunter/code.Slot).Op -/
noncomputable def code_Slot_Op (s_0 : Int × Int × Unit) : Option ((Int × Unit) × (Unit)) :=
  some ((s_0.1, ()), ())

/-! ### (shunter/code.Jump).Op -/
noncomputable def code_Jump_Op (s_0 : Int × Int × Unit) : Option ((Int × Unit) × (Unit)) :=
  some ((s_0.1, ()), ())

/-! ### (shunter/code.Stop).Op -/
noncomputable def code_Stop_Op (s_0 : Unit) : Option ((Int × Unit) × (Unit)) :=
  some ((34, ()), ())

end Go.L
