/- Values of Go programs as plain Lean data: a code for kinds (Ty), what a kind holds (T), paths into a value, and reads and writes along them. No program and no machine in sight. -/
import GoSem.Step
import Derived.KernelRfl
namespace Go.Pv
noncomputable section

/-- kinds of values. slice: a slice whose cells never change again; own: a slice whose cells are nobody else's; app: a slice that may be appended to; junk: a cell of which nothing is known; ptr: nil or a pointer to memory that never changes again; box: nil or a pointer to memory that is nobody else's; nils: a nil slice; nilp: a nil pointer; nili and alt: an interface's value, one of some types. -/
inductive Ty where
  | int (k : IntKind) | bool | str | unit
  | pair (a b : Ty) | agg (a : Ty) | arr (n : Nat) (e : Ty)
  | slice (e : Ty) | app (e : Ty) | own (e : Ty) | junk
  | ptr (t : Ty) | box (t : Ty)
  | nils (e : Ty) | nilp
  | nili | alt (u : Nat) (t r : Ty)
  deriving DecidableEq, Inhabited

@[reducible] def T : Ty → Type
  | .int _ => Int
  | .bool => Bool
  | .str => List Int
  | .unit => Unit
  | .pair a b => T a × T b
  | .agg a => T a
  | .arr _ e => List (T e)
  | .slice e => List (T e)
  | .app e => List (T e)
  | .own e => List (T e)
  | .junk => Unit
  | .ptr t => Option (T t)
  | .box t => Option (T t)
  | .nils _ => Unit
  | .nilp => Unit
  | .nili => Unit
  | .alt _ t r => T t ⊕ T r

def dflt : (t : Ty) → T t
  | .int _ => (0 : Int)
  | .bool => false
  | .str => ([] : List Int)
  | .unit => ()
  | .pair a b => (dflt a, dflt b)
  | .agg a => dflt a
  | .arr n e => List.replicate n (dflt e)
  | .slice e => ([] : List (T e))
  | .app e => ([] : List (T e))
  | .own e => ([] : List (T e))
  | .junk => ()
  | .ptr t => (none : Option (T t))
  | .box t => (none : Option (T t))
  | .nils _ => ()
  | .nilp => ()
  | .nili => ()
  | .alt _ _ r => .inr (dflt r)

def Ty.size : Ty → Nat
  | .unit => 0
  | .pair a b => a.size + b.size
  | .agg a => a.size
  | .arr n e => n * e.size

  | _ => 1

def Ty.isAgg : Ty → Bool
  | .agg _ => true
  | _ => false

/-- nothing in it is owned -/
def Ty.pure : Ty → Bool
  | .pair a b => a.pure && b.pure
  | .agg a => a.pure
  | .arr _ e => e.pure
  | .slice e => e.pure
  | .nils e => e.pure
  | .ptr t => t.pure
  | .alt _ t r => t.pure && r.pure
  | .app _ | .own _ | .junk | .box _ => false
  | _ => true

/-- it leads to no memory but its own -/
def Ty.flat : Ty → Bool
  | .pair a b => a.flat && b.flat
  | .agg a => a.flat
  | .arr _ e => e.flat
  | .own e => e.flat
  | .nils e => e.flat
  | .box t => t.flat
  | .alt _ t r => t.flat && r.flat
  | .slice _ | .app _ | .ptr _ => false
  | _ => true

structure Dyn where
  ty : Ty
  val : T ty

/-- a kind, and a value that may fail to be there -/
structure ODyn where
  ty : Ty
  val : Option (T ty)

def Dyn.as (d : Dyn) (t : Ty) : Option (T t) := if h : d.ty = t then some (h ▸ d.val) else none

/-! ### what is owned is given up -/
def frz : Ty → Ty
  | .pair a b => .pair (frz a) (frz b)
  | .agg a => .agg (frz a)
  | .app e => .slice e
  | .own e => .slice e
  | .box t => .ptr t
  | t => t

def frzV : (t : Ty) → T t → T (frz t)
  | .pair a b, x => (frzV a x.1, frzV b x.2)
  | .agg a, x => frzV a x
  | .app _, x => x
  | .own _, x => x
  | .box _, x => x
  | .arr _ _, x => x
  | .int _, x => x
  | .bool, x => x
  | .str, x => x
  | .unit, x => x
  | .slice _, x => x
  | .junk, x => x
  | .ptr _, x => x
  | .nils _, x => x
  | .nilp, x => x
  | .nili, x => x
  | .alt _ _ _, x => x

/-! ### a value as one of a wider kind: nil as a list, a pointer, an interface's value; one of some types as one of more -/
def inj (u : Nat) (t : Ty) : (b : Ty) → Option (T t → T b)
  | .alt u' t' r => if u = u' then (if h : t = t' then some fun x => .inl (h ▸ x) else none) else (inj u t r).map fun f x => .inr (f x)
  | _ => none

def toNil : (b : Ty) → Option (T b)
  | .nili => some ()
  | .alt _ _ r => (toNil r).map .inr
  | _ => none

def cvAlt : (a b : Ty) → Option (T a → T b)
  | .nili, b => (toNil b).map fun y _ => y
  | .alt u t r, b => (inj u t b).bind fun f => (cvAlt r b).map fun g x => match x with | .inl y => f y | .inr y => g y
  | _, _ => none

def cvC : (a b : Ty) → Option (T a → T b)
  | .nils e, .slice e' => if e = e' then some fun _ => [] else none
  | .nils e, .own e' => if e = e' then some fun _ => [] else none
  | .nils e, .app e' => if e = e' then some fun _ => [] else none
  | .own e, .app e' => if h : e = e' then some fun x => h ▸ x else none
  | .nilp, .ptr _ => some fun _ => none
  | .nilp, .box _ => some fun _ => none
  | .nili, .alt u t r => cvAlt .nili (.alt u t r)
  | .alt u t r, .alt u' t' r' => cvAlt (.alt u t r) (.alt u' t' r')
  | _, _ => none

def cvB (a b : Ty) : Option (T a → T b) := if h : a = b then some fun x => h ▸ x else cvC a b

def cv : (a b : Ty) → Option (T a → T b)
  | .pair a1 a2, .pair b1 b2 => (cv a1 b1).bind fun f => (cv a2 b2).map fun g x => (f x.1, g x.2)
  | .agg a, .agg b => cv a b
  | a, b => cvB a b

def Dyn.cv (d : Dyn) (t : Ty) : Option (T t) := (Pv.cv d.ty t).map fun f => f d.val

/-! ### lists by whole numbers -/
def rdI {α : Type} (xs : List α) (i : Int) : Option α := if 0 ≤ i then xs[i.toNat]? else none
def stI {α : Type} (xs : List α) (i : Int) (v : α) : Option (List α) := if 0 ≤ i ∧ i.toNat < xs.length then some (xs.set i.toNat v) else none

/-! ### paths -/
inductive PS where
  | fld (i : Nat) | idx (i : Int)

abbrev Path := List PS

def getF : (t : Ty) → Option (T t) → Nat → Option ODyn
  | .pair a _, x, 0 => some ⟨a, x.map (·.1)⟩
  | .pair _ b, x, i + 1 => getF b (x.map (·.2)) i
  | _, _, _ => none

def getS : ODyn → PS → Option ODyn
  | ⟨.agg t, x⟩, .fld i => getF t x i
  | ⟨.agg (.arr _ e), x⟩, .idx i => some ⟨e, x.bind fun xs => rdI xs i⟩
  | _, _ => none

def getP : ODyn → Path → Option ODyn
  | d, [] => some d
  | d, s :: p => (getS d s).bind fun y => getP y p

def setF : (t : Ty) → Option (T t) → Nat → ODyn → Option ODyn
  | .pair _ b, x, 0, y => some ⟨.pair y.ty b, x.bind fun v => y.val.map fun w => (w, v.2)⟩
  | .pair a b, x, i + 1, y => (setF b (x.map (·.2)) i y).map fun z => ⟨.pair a z.ty, x.bind fun v => z.val.map fun w => (v.1, w)⟩
  | _, _, _, _ => none

def setS : ODyn → PS → ODyn → Option ODyn
  | ⟨.agg t, x⟩, .fld i, y => (setF t x i y).map fun z => ⟨.agg z.ty, z.val⟩
  | ⟨.agg (.arr n e), x⟩, .idx i, y => if h : y.ty = e then some ⟨.agg (.arr n e), x.bind fun v => (h ▸ y.val : Option (T e)).bind fun w => stI v i w⟩ else none
  | _, _, _ => none

def setP : ODyn → Path → ODyn → Option ODyn
  | _, [], y => some y
  | d, s :: p, y => (getS d s).bind fun sub => (setP sub p y).bind fun sub' => setS d s sub'

/-- how a kind lies in cells: what a cell holds doesn't count -/
def sk : Ty → Ty
  | .pair a b => .pair (sk a) (sk b)
  | .agg a => .agg (sk a)
  | .arr n e => .arr n (sk e)
  | .unit => .unit

  | _ => .bool

def offF : Ty → Nat → Option (Nat × Ty)
  | .pair a _, 0 => some (0, a)
  | .pair a b, i + 1 => (offF b i).map fun r => (a.size + r.1, r.2)
  | _, _ => none

def offS : Ty → PS → Option (Nat × Ty)
  | .agg t, .fld i => offF t i
  | .agg (.arr _ e), .idx i => some (i.toNat * e.size, e)
  | _, _ => none

def offP : Ty → Path → Option (Nat × Ty)
  | t, [] => some (0, t)
  | t, s :: p => (offS t s).bind fun r => (offP r.2 p).map fun q => (r.1 + q.1, q.2)

end
end Go.Pv
