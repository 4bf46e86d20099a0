/- The functions that the statements reach as plain Lean, and what they compute. -/
import Derived.Test.YtplljenbabhjbaaQ16

set_option linter.unusedSimpArgs false
set_option linter.unusedVariables false

namespace Go.L
open Go Go.Pv
set_option maxRecDepth 100000

abbrev K4 := Int × Int × Int × Unit
abbrev Slot := Bool × (K4 × Int × Unit) × Unit
def sZ : Slot := (false, ((0, 0, 0, ()), 0, ()), ())
def sl (l : List Slot) (i : Nat) : Slot := l.getD i sZ
def us (l : List Slot) (i : Nat) : Bool := (sl l i).1
def ky (l : List Slot) (i : Nat) : K4 := (sl l i).2.1.1

/-- how far it is to another slot, going round -/
def ds (s a b : Nat) : Nat := if a ≤ b then b - a else b + s - a
def nx (s i : Nat) : Nat := if i + 1 = s then 0 else i + 1

/-! ### where a row would lie -/
def hstep (h v : Int) : Int := bitsI .xor .u64 (IntKind.u64.wrap (bitsI .xor .u64 h v * 1099511628211)) ((IntKind.u64.wrap (bitsI .xor .u64 h v * 1099511628211)).fdiv (2 ^ 32))
def hsh (k : K4) : Int := hstep (hstep (hstep 14695981039346656037 (IntKind.u64.wrap k.1)) k.2.1) k.2.2.1
def hm (s : Nat) (k : K4) : Nat := (hsh k).toNat % s

end Go.L

namespace Go.L
open Go Go.Pv
set_option maxRecDepth 100000

/-- what a map keeps -/
structure Ivt (most n : Nat) (l : List Slot) : Prop where
  m1 : 1 ≤ most
  big : 2 * most ≤ l.length
  sm : l.length ≤ 1024
  cnt : l.countP (·.1) = n
  nm : n ≤ most
  emp : ∀ i, i < l.length → us l i = false → sl l i = sZ
  dis : ∀ i j, i < l.length → j < l.length → us l i = true → us l j = true → ky l i = ky l j → i = j
  rch : ∀ k, k < l.length → us l k = true → ∀ x, x < l.length → ds l.length (hm l.length (ky l k)) x < ds l.length (hm l.length (ky l k)) k → us l x = true

def has (l : List Slot) (k : K4) (v : Int) : Prop := ∃ i, i < l.length ∧ sl l i = (true, (k, v, ()), ())

end Go.L

namespace Go.L
open Go Go.Pv
set_option maxRecDepth 100000

/-- how far behind a slot, going round -/
def cc (s e x : Nat) : Nat := ds s (nx s e) x

/-- what a row of slots keeps while things move up to a gap -/
structure Cls (s e g i : Nat) (l : List Slot) : Prop where
  len : l.length = s
  e_lt : e < s
  g_lt : g < s
  i_lt : i < s
  ue : us l e = false
  ug : us l g = false
  ge : g ≠ e
  gi : cc s e g < cc s e i
  emp : ∀ x, x < s → us l x = false → sl l x = sZ
  dis : ∀ x y, x < s → y < s → us l x = true → us l y = true → ky l x = ky l y → x = y
  h1 : ∀ k, k < s → us l k = true → cc s e (hm s (ky l k)) ≤ cc s e k ∧ ∀ x, x < s → cc s e (hm s (ky l k)) ≤ cc s e x → cc s e x < cc s e k → us l x = true ∨ x = g
  h2 : ∀ k, k < s → us l k = true → cc s e g < cc s e k → cc s e k < cc s e i → cc s e g < cc s e (hm s (ky l k))

structure Cld (s e : Nat) (l l' : List Slot) : Prop where
  len : l'.length = s
  ue : us l' e = false
  cnt : l'.countP (·.1) = l.countP (·.1)
  emp : ∀ x, x < s → us l' x = false → sl l' x = sZ
  dis : ∀ x y, x < s → y < s → us l' x = true → us l' y = true → ky l' x = ky l' y → x = y
  h1 : ∀ k, k < s → us l' k = true → cc s e (hm s (ky l' k)) ≤ cc s e k ∧ ∀ x, x < s → cc s e (hm s (ky l' k)) ≤ cc s e x → cc s e x < cc s e k → us l' x = true
  has : ∀ k v, has l' k v ↔ has l k v

end Go.L
