/- A plain run of Go code, and that the machine does what it says. -/
import GoSem.Step
import Derived.KernelRfl
import GoSem.ClaimData
import Derived.Calls
import Derived.Laws.Sem
import Derived.Laws.Cells
import Derived.Laws.World
import Derived.Laws.Append
import Derived.Laws.AppendOwn
import Derived.ChangeKeysEq

set_option linter.unusedSimpArgs false
set_option linter.unusedVariables false

namespace Go.Pv
noncomputable section

inductive Ty where
 | int (k : IntKind) | bool | str | unit
 | pair (a b : Ty) | agg (a : Ty) | arr (n : Nat) (e : Ty)
 | slice (e : Ty) | app (e : Ty) | own (e : Ty) | junk
 | ptr (t : Ty) | box (t : Ty)
 | nils (e : Ty) | nilp
 | nili | alt (u : Nat) (t r : Ty)
 | iter
 deriving DecidableEq, Inhabited

@[reducible] def T : Ty → Type
 | .int _ => Int
 | .bool => Bool
 | .str => List Int
 | .unit => Unit
 | .pair a b => T a × T b
 | .agg a => T a
 | .arr _ e => List (T e)
 | .slice e => List (T e)
 | .app e => List (T e)
 | .own e => List (T e)
 | .junk => Unit
 | .ptr t => Option (T t)
 | .box t => Option (T t)
 | .nils _ => Unit
 | .nilp => Unit
 | .nili => Unit
 | .alt _ t r => T t ⊕ T r
 | .iter => List Int × Int

def dflt : (t : Ty) → T t
 | .int _ => (0 : Int)
 | .bool => false
 | .str => ([] : List Int)
 | .unit => ()
 | .pair a b => (dflt a, dflt b)
 | .agg a => dflt a
 | .arr n e => List.replicate n (dflt e)
 | .slice e => ([] : List (T e))
 | .app e => ([] : List (T e))
 | .own e => ([] : List (T e))
 | .junk => ()
 | .ptr t => (none : Option (T t))
 | .box t => (none : Option (T t))
 | .nils _ => ()
 | .nilp => ()
 | .nili => ()
 | .alt _ _ r => .inr (dflt r)
 | .iter => (([] : List Int), (0 : Int))

def Ty.size : Ty → Nat
 | .unit => 0
 | .pair a b => a.size + b.size
 | .agg a => a.size
 | .arr n e => n * e.size

 | _ => 1

def Ty.isAgg : Ty → Bool
 | .agg _ => true
 | _ => false

def Ty.pure : Ty → Bool
 | .pair a b => a.pure && b.pure
 | .agg a => a.pure
 | .arr _ e => e.pure
 | .slice e => e.pure
 | .nils e => e.pure
 | .ptr t => t.pure
 | .alt _ t r => t.pure && r.pure
 | .app _ | .own _ | .junk | .box _ | .iter => false
 | _ => true

def Ty.flat : Ty → Bool
 | .pair a b => a.flat && b.flat
 | .agg a => a.flat
 | .arr _ e => e.flat
 | .own e => e.flat
 | .nils e => e.flat
 | .box t => t.flat
 | .alt _ t r => t.flat && r.flat
 | .slice _ | .app _ | .ptr _ => false
 | _ => true

structure Dyn where
 ty : Ty
 val : T ty

structure ODyn where
 ty : Ty
 val : Option (T ty)

def Dyn.as (d : Dyn) (t : Ty) : Option (T t) := if h : d.ty = t then some (h ▸ d.val) else none

def frz : Ty → Ty
 | .pair a b => .pair (frz a) (frz b)
 | .agg a => .agg (frz a)
 | .app e => .slice e
 | .own e => .slice e
 | .box t => .ptr t
 | t => t

def frzV : (t : Ty) → T t → T (frz t)
 | .pair a b, x => (frzV a x.1, frzV b x.2)
 | .agg a, x => frzV a x
 | .app _, x => x
 | .own _, x => x
 | .box _, x => x
 | .arr _ _, x => x
 | .int _, x => x
 | .bool, x => x
 | .str, x => x
 | .unit, x => x
 | .slice _, x => x
 | .junk, x => x
 | .ptr _, x => x
 | .nils _, x => x
 | .nilp, x => x
 | .nili, x => x
 | .alt _ _ _, x => x
 | .iter, x => x

def inj (u : Nat) (t : Ty) : (b : Ty) → Option (T t → T b)
 | .alt u' t' r => if u = u' then (if h : t = t' then some fun x => .inl (h ▸ x) else none) else (inj u t r).map fun f x => .inr (f x)
 | _ => none

def toNil : (b : Ty) → Option (T b)
 | .nili => some ()
 | .alt _ _ r => (toNil r).map .inr
 | _ => none

def cvAlt : (a b : Ty) → Option (T a → T b)
 | .nili, b => (toNil b).map fun y _ => y
 | .alt u t r, b => (inj u t b).bind fun f => (cvAlt r b).map fun g x => match x with | .inl y => f y | .inr y => g y
 | _, _ => none

def cvC : (a b : Ty) → Option (T a → T b)
 | .nils _, .slice _ => some fun _ => []
 | .nils _, .own _ => some fun _ => []
 | .nils _, .app _ => some fun _ => []
 | .own e, .app e' => if h : e = e' then some fun x => h ▸ x else none
 | .nilp, .ptr _ => some fun _ => none
 | .nilp, .box _ => some fun _ => none
 | .nili, .alt u t r => cvAlt .nili (.alt u t r)
 | .alt u t r, .alt u' t' r' => cvAlt (.alt u t r) (.alt u' t' r')
 | _, _ => none

def cvB (a b : Ty) : Option (T a → T b) := if h : a = b then some fun x => h ▸ x else cvC a b

def cv : (a b : Ty) → Option (T a → T b)
 | .pair a1 a2, .pair b1 b2 => (cv a1 b1).bind fun f => (cv a2 b2).map fun g x => (f x.1, g x.2)
 | .agg a, .agg b => cv a b
 | a, b => cvB a b

def Dyn.cv (d : Dyn) (t : Ty) : Option (T t) := (Pv.cv d.ty t).map fun f => f d.val

def rdI {α : Type} (xs : List α) (i : Int) : Option α := if 0 ≤ i then xs[i.toNat]? else none
def stI {α : Type} (xs : List α) (i : Int) (v : α) : Option (List α) := if 0 ≤ i ∧ i.toNat < xs.length then some (xs.set i.toNat v) else none

inductive PS where
 | fld (i : Nat) | idx (i : Int)

abbrev Path := List PS

def getF : (t : Ty) → Option (T t) → Nat → Option ODyn
 | .pair a _, x, 0 => some ⟨a, x.map (·.1)⟩
 | .pair _ b, x, i + 1 => getF b (x.map (·.2)) i
 | _, _, _ => none

def getS : ODyn → PS → Option ODyn
 | ⟨.agg t, x⟩, .fld i => getF t x i
 | ⟨.agg (.arr _ e), x⟩, .idx i => some ⟨e, x.bind fun xs => rdI xs i⟩
 | _, _ => none

def getP : ODyn → Path → Option ODyn
 | d, [] => some d
 | d, s :: p => (getS d s).bind fun y => getP y p

def setF : (t : Ty) → Option (T t) → Nat → ODyn → Option ODyn
 | .pair _ b, x, 0, y => some ⟨.pair y.ty b, x.bind fun v => y.val.map fun w => (w, v.2)⟩
 | .pair a b, x, i + 1, y => (setF b (x.map (·.2)) i y).map fun z => ⟨.pair a z.ty, x.bind fun v => z.val.map fun w => (v.1, w)⟩
 | _, _, _, _ => none

def setS : ODyn → PS → ODyn → Option ODyn
 | ⟨.agg t, x⟩, .fld i, y => (setF t x i y).map fun z => ⟨.agg z.ty, z.val⟩
 | ⟨.agg (.arr n e), x⟩, .idx i, y => if h : y.ty = e then some ⟨.agg (.arr n e), x.bind fun v => (h ▸ y.val : Option (T e)).bind fun w => stI v i w⟩ else none
 | _, _, _ => none

def setP : ODyn → Path → ODyn → Option ODyn
 | _, [], y => some y
 | d, s :: p, y => (getS d s).bind fun sub => (setP sub p y).bind fun sub' => setS d s sub'

def sk : Ty → Ty
 | .pair a b => .pair (sk a) (sk b)
 | .agg a => .agg (sk a)
 | .arr n e => .arr n (sk e)
 | .unit => .unit

 | _ => .bool

def offF : Ty → Nat → Option (Nat × Ty)
 | .pair a _, 0 => some (0, a)
 | .pair a b, i + 1 => (offF b i).map fun r => (a.size + r.1, r.2)
 | _, _ => none

def offS : Ty → PS → Option (Nat × Ty)
 | .agg t, .fld i => offF t i
 | .agg (.arr _ e), .idx i => some (i.toNat * e.size, e)
 | _, _ => none

def offP : Ty → Path → Option (Nat × Ty)
 | t, [] => some (0, t)
 | t, s :: p => (offS t s).bind fun r => (offP r.2 p).map fun q => (r.1 + q.1, q.2)

end
end Go.Pv

namespace Go.Pv
noncomputable section

inductive EV where
 | dead
 | val (d : Dyn)
 | cst (v : Value)
 | clip (e : Ty) (xs : List (T e))
 | at_ (n : Nat) (p : Path)
 | loc (n : Nat) (p : Path)
 | oel (n : Nat) (p : Path) (e : Ty) (i : Int) (q : Path)
 | ref (d : Dyn)
 | tup (l : List EV)
 | fn (f : Nat) (caps : List EV)
 | maybe (t : Nat) (want : Bool) (c : Bool) (v : EV)
 | any
 | none_
 | alias (t : Nat) (pay : Bool) (d : Dyn)

abbrev Env := List (Nat × EV)
abbrev Pl := List (Nat × Dyn)

structure St where
 env : Env
 pl : Pl

def lk {α : Type} (n : Nat) : List (Nat × α) → Option α
 | [] => none
 | (m, a) :: r => bif Nat.beq n m then some a else lk n r

def rmv {α : Type} (n : Nat) : List (Nat × α) → List (Nat × α)
 | [] => []
 | (m, a) :: r => bif Nat.beq n m then rmv n r else (m, a) :: rmv n r

def put {α : Type} (n : Nat) (a : α) (l : List (Nat × α)) : List (Nat × α) := (n, a) :: rmv n l

def tyFields (f : TypeId → Option Ty) : List Field → Option Ty
 | [] => some .unit
 | x :: r => (f x.type).bind fun t => (tyFields f r).map fun u => .pair t u

def tyOf (P : Program) : Nat → TypeId → Option Ty
 | 0, _ => none
 | n + 1, t => match P.underlying t with
  | some .bool => some .bool
  | some (.int k) => some (.int k)
  | some .string => some .str
  | some (.struct fs) => (tyFields (tyOf P n) fs.toList).map .agg
  | some (.array m e) => (tyOf P n e).map fun t => .agg (.arr m t)
  | some (.slice e) => (tyOf P n e).map .nils
  | some (.pointer _) => some .nilp
  | some (.interface _) => some .nili
  | _ => none

def zc : Ty → Value → Bool
 | .int k, v => match v with | .int k' n => decide (k = k') && decide (n = 0) | _ => false
 | .bool, v => match v with | .bool b => !b | _ => false
 | .str, v => match v with | .string s => Nat.beq s.data.size 0 | _ => false
 | .nils _, v => match v with | .slice none 0 0 => true | _ => false
 | .slice _, v => match v with | .slice none 0 0 => true | _ => false
 | .nilp, v => match v with | .pointer none => true | _ => false
 | .ptr _, v => match v with | .pointer none => true | _ => false
 | .nili, v => match v with | .nilIface => true | _ => false
 | .alt _ _ r, v => zc r v
 | _, _ => false

def times {α : Type} (f : α → Option α) : Nat → α → Option α
 | 0, x => some x
 | n + 1, x => (f x).bind (times f n)

def isZ : Ty → List Value → Option (List Value)
 | .unit, r => some r
 | .pair a b, r => (isZ a r).bind (isZ b)
 | .agg a, r => isZ a r
 | .arr n e, r => times (isZ e) n r
 | t, r => match r with
  | [] => none
  | v :: r => bif zc t v then some r else none

def tyId (P : Program) (t : TypeId) : Option Ty := tyOf P 12 t

def zeroD (P : Program) (t : TypeId) : Option Dyn :=
 (tyId P t).bind fun ty => ((P.info? t).bind (·.zero)).bind fun z => match isZ ty z.cells.toList with
  | some [] => some ⟨ty, dflt ty⟩
  | _ => none

def bytesOf (s : ByteArray) : List Int := s.data.toList.map fun b => (b.toNat : Int)

def inR (k : IntKind) (n : Int) : Bool := decide (k.min ≤ n) && decide (n ≤ k.max)

def cstD (P : Program) (t : TypeId) : Value → Option Dyn
 | .int k n => if inR k n then some ⟨.int k, n⟩ else none
 | .bool b => some ⟨.bool, b⟩
 | .string s => if s.size ≤ 1000000 then some ⟨.str, bytesOf s⟩ else none
 | .slice none 0 0 => (tyId P t).bind fun ty => match ty with | .nils e => some ⟨.nils e, ()⟩ | _ => none
 | .pointer none => some ⟨.nilp, ()⟩
 | .nilIface => some ⟨.nili, ()⟩
 | .agg cs => (tyId P t).bind fun ty => match isZ ty cs.toList with
  | some [] => if ty.isAgg = true then some ⟨ty, dflt ty⟩ else none
  | _ => none
 | _ => none

def EV.fix (P : Program) (t : TypeId) : EV → Option EV
 | .cst v => (cstD P t v).map .val
 | e => some e

mutual
def EV.hits (n : Nat) (hard : Bool) : EV → Bool
 | .at_ m _ => Nat.beq n m
 | .oel m _ _ _ _ => Nat.beq n m
 | .loc m _ => hard && Nat.beq n m
 | .tup l => EV.hitsL n hard l
 | .fn _ l => EV.hitsL n hard l
 | .maybe _ _ _ v => v.hits n hard
 | _ => false
def EV.hitsL (n : Nat) (hard : Bool) : List EV → Bool
 | [] => false
 | x :: r => x.hits n hard || EV.hitsL n hard r
end

inductive AV where
 | val (d : Dyn) | obj (d : Dyn) | ref (d : Dyn) | fn (f : Nat) (caps : List AV) | own (d : Dyn) | fno (f : Nat) (d : Dyn)

inductive RV where
 | val (d : Dyn) | own (d : Dyn) | ptr (d : Dyn)

inductive RK where
 | val (t : Ty) | own (t : Ty) | ptr (t : Ty)
 deriving DecidableEq

@[reducible] def RK.ty : RK → Ty
 | .val t => t
 | .own t => t
 | .ptr t => t

def RK.rv : (r : RK) → T r.ty → RV
 | .val t, x => .val ⟨t, x⟩
 | .own t, x => .own ⟨t, x⟩
 | .ptr t, x => .ptr ⟨t, x⟩

def RK.ok : RK → Bool
 | .val t => t.pure
 | _ => true

@[reducible] def ResT : List RK → Type
 | [] => Unit
 | r :: l => T r.ty × ResT l

@[reducible] def ObjT : List Ty → Type
 | [] => Unit
 | t :: l => T t × ObjT l

def resD : (l : List RK) → ResT l
 | [] => ()
 | r :: l => (dflt r.ty, resD l)

def objD : (l : List Ty) → ObjT l
 | [] => ()
 | t :: l => (dflt t, objD l)

def resL : (l : List RK) → ResT l → List RV
 | [], _ => []
 | r :: l, x => r.rv x.1 :: resL l x.2

def objsL : (l : List Ty) → ObjT l → List Dyn
 | [], _ => []
 | t :: l, x => ⟨t, x.1⟩ :: objsL l x.2

abbrev Alt := List RK × List Ty

@[reducible] def AltT : List Alt → Type
 | [] => Empty
 | [a] => ResT a.1 × ObjT a.2
 | a :: b :: l => (ResT a.1 × ObjT a.2) ⊕ AltT (b :: l)

def altR : (l : List Alt) → AltT l → (a : Alt) × (ResT a.1 × ObjT a.2)
 | [], x => nomatch x
 | [a], x => ⟨a, x⟩
 | a :: _ :: _, .inl x => ⟨a, x⟩
 | _ :: b :: l, .inr x => altR (b :: l) x

def altD : (l : List Alt) → Option (AltT l)
 | [] => none
 | [a] => some (resD a.1, objD a.2)
 | a :: _ :: _ => some (.inl (resD a.1, objD a.2))

def altS : (l : List Alt) → {β : Type} → (AltT l → Option β) → AltT l → Option β
 | [], _, k => k
 | [_], _, k => k
 | _ :: b :: l, _, k => fun x => match x with
  | .inl y => k (.inl y)
  | .inr y => altS (b :: l) (fun z => k (.inr z)) y

theorem altS_eq : ∀ (l : List Alt) {β : Type} (k : AltT l → Option β) (x : AltT l), altS l k x = k x
 | [], _, _, _ => rfl
 | [_], _, _, _ => rfl
 | _ :: b :: l, _, k, x => by
  cases x with
  | inl y => rfl
  | inr y => exact altS_eq (b :: l) (fun z => k (.inr z)) y

structure SRes where
 alts : List Alt
 run : Option (AltT alts)

structure Srt where
 e : Ty
 g : Nat
 F : List (T e) → Option (List (T e))

structure CSem where
 own : Nat → Bool
 run : List AV → Option SRes
 sort : Option Srt
 pay : Option Nat

inductive Upd where
 | del | new (d : Dyn) | set (d : Dyn) | keep (d : Dyn)

abbrev Upds := List (Nat × Upd)

structure Res where
 ev : EV
 upd : Upds := []

class Spl (α : Type) where
 split : {β : Type} → (α → Option β) → α → Option β
 law : ∀ {β : Type} (k : α → Option β) (x : α), split k x = k x

instance (priority := low) {α : Type} : Spl α := ⟨fun k => k, fun _ _ => rfl⟩

def boolS {β : Type} (k : Bool → Option β) (x : Bool) : Option β := bif x then k true else k false

theorem boolS_eq {β : Type} (k : Bool → Option β) (x : Bool) : boolS k x = k x := by cases x <;> rfl

@[reducible] def boolSpl : Spl Bool := ⟨boolS, boolS_eq⟩

@[reducible] def altSpl (l : List Alt) : Spl (AltT l) := ⟨altS l, altS_eq l⟩

structure ORes where
 {α : Type}
 run : Option α
 dflt : α
 out : α → Res
 [spl : Spl α]

def ORes.just (r : Res) : ORes := ⟨some (), (), fun _ => r⟩

abbrev Look := Nat → Option Dyn

def nameOf (dst i : Nat) : Nat := 2 * (16 * dst + i)
def objName (k : Nat) : Nat := 2 * k + 1

def EV.rd (L : Look) : EV → Option ODyn
 | .val d => some ⟨d.ty, some d.val⟩
 | .alias _ _ d => some ⟨d.ty, some d.val⟩
 | .clip e xs => some ⟨.slice e, some xs⟩
 | .at_ n p => (L n).bind fun d => getP ⟨d.ty, some d.val⟩ p
 | _ => none

def EV.take (L : Look) : EV → Option (ODyn × Upds)
 | .val d => some (⟨d.ty, some d.val⟩, [])
 | .alias _ _ d => some (⟨d.ty, some d.val⟩, [])
 | .clip e xs => some (⟨.slice e, some xs⟩, [])
 | .at_ n p => (L n).bind fun d => (getP ⟨d.ty, some d.val⟩ p).bind fun y =>
   if y.ty.pure then some (y, []) else
   let z : ODyn := ⟨frz y.ty, y.val.map (frzV y.ty)⟩
   if z.ty.pure then (setP ⟨d.ty, some d.val⟩ p z).bind fun d' => match d'.val with
    | some v => some (z, [(n, .keep ⟨d'.ty, v⟩)])
    | none => none
   else none
 | _ => none

def EV.mv (L : Look) : EV → Option (ODyn × Upds)
 | .at_ n [] => (L n).bind fun d => if d.ty.pure then some (⟨d.ty, some d.val⟩, []) else if Nat.beq (n % 2) 0 then some (⟨d.ty, some d.val⟩, [(n, .del)]) else none
 | .loc n [] => (L n).bind fun d => if Nat.beq (n % 2) 0 && (frz d.ty).pure then some (⟨.ptr (frz d.ty), some (some (frzV d.ty d.val))⟩, [(n, .del)]) else none
 | e => e.take L

def ODyn.res (y : ODyn) (k : Dyn → Res) : ORes := ⟨y.val, Pv.dflt y.ty, fun v => k ⟨y.ty, v⟩⟩

def EV.int? (L : Look) (e : EV) : Option (IntKind × Option Int) :=
 match e with
 | .cst (.int k n) => if inR k n then some (k, some n) else none
 | e => (e.rd L).bind fun d => match d with
  | ⟨.int k, n⟩ => some (k, n)
  | _ => none

def bitsI (op : BinOp) (k : IntKind) (x y : Int) : Int :=
 match op with
 | .and => k.wrap (BitVec.ofInt k.bits x &&& BitVec.ofInt k.bits y).toNat
 | .or => k.wrap (BitVec.ofInt k.bits x ||| BitVec.ofInt k.bits y).toNat
 | .xor => k.wrap (BitVec.ofInt k.bits x ^^^ BitVec.ofInt k.bits y).toNat
 | _ => k.wrap (BitVec.ofInt k.bits x &&& ~~~ (BitVec.ofInt k.bits y)).toNat

def quoI (k : IntKind) (x y : Int) : Option Int := if y = 0 then none else some (k.wrap (x.tdiv y))
def remI (x y : Int) : Option Int := if y = 0 then none else some (x.tmod y)
def shlI (k : IntKind) (x y : Int) : Option Int := if y < 0 then none else some (k.wrap (x * 2 ^ (min y.toNat k.bits)))
def shrI (k : IntKind) (x y : Int) : Option Int := if y < 0 then none else some (x.fdiv (2 ^ (min y.toNat k.bits)))

def intOp (op : BinOp) (k : IntKind) (x y : Int) : Option ODyn :=
 match op with
 | .add => some ⟨.int k, some (k.wrap (x + y))⟩
 | .sub => some ⟨.int k, some (k.wrap (x - y))⟩
 | .mul => some ⟨.int k, some (k.wrap (x * y))⟩
 | .quo => some ⟨.int k, quoI k x y⟩
 | .rem => some ⟨.int k, remI x y⟩
 | .and => some ⟨.int k, some (bitsI .and k x y)⟩
 | .or => some ⟨.int k, some (bitsI .or k x y)⟩
 | .xor => some ⟨.int k, some (bitsI .xor k x y)⟩
 | .andNot => some ⟨.int k, some (bitsI .andNot k x y)⟩
 | .eql => some ⟨.bool, some (decide (x = y))⟩
 | .neq => some ⟨.bool, some (!decide (x = y))⟩
 | .lss => some ⟨.bool, some (decide (x < y))⟩
 | .leq => some ⟨.bool, some (decide (x ≤ y))⟩
 | .gtr => some ⟨.bool, some (decide (x > y))⟩
 | .geq => some ⟨.bool, some (decide (x ≥ y))⟩
 | _ => none

def ltB : List Int → List Int → Bool
 | _, [] => false
 | [], _ :: _ => true
 | a :: x, b :: y => decide (a < b) || (decide (a = b) && ltB x y)

def catI (x y : List Int) : Option (List Int) := if x.length + y.length ≤ 9223372036854775807 then some (x ++ y) else none

def strOp (op : BinOp) (x y : List Int) : Option ODyn :=
 match op with
 | .add => some ⟨.str, catI x y⟩
 | .eql => some ⟨.bool, some (decide (x = y))⟩
 | .neq => some ⟨.bool, some (!decide (x = y))⟩
 | .lss => some ⟨.bool, some (ltB x y)⟩
 | .leq => some ⟨.bool, some (ltB x y || decide (x = y))⟩
 | .gtr => some ⟨.bool, some (!(ltB x y || decide (x = y)))⟩
 | .geq => some ⟨.bool, some (!ltB x y)⟩
 | _ => none

def sizeOk (P : Program) (t : TypeId) (ty : Ty) : Bool :=
 match P.info? t with
 | some i => Nat.beq i.size ty.size && (match P.underlying t with | some (.struct _) => ty.isAgg | some (.array _ _) => ty.isAgg | some _ => !ty.isAgg && Nat.beq ty.size 1 | none => false)
 | none => false

def eqFs (P : Program) (f : TypeId → (t : Ty) → Option (T t → T t → Bool)) : List Field → Nat → (c : Ty) → Option (T c → T c → Bool)
 | [], _, .unit => some fun _ _ => true
 | x :: fs, off, .pair a b => if decide (x.name ≠ "_") && Nat.beq x.offset off && sizeOk P x.type a then
   match fs, b with
   | [], .unit => (f x.type a).map fun g p q => g p.1 q.1
   | fs, b => (f x.type a).bind fun g => (eqFs P f fs (off + a.size) b).map fun h p q => g p.1 q.1 && h p.2 q.2
  else none
 | _, _, _ => none

def eqLs {α : Type} (g : α → α → Bool) : List α → List α → Bool
 | [], [] => true
 | x :: xs, y :: ys => g x y && eqLs g xs ys
 | _, _ => false

def eqBy (P : Program) : Nat → TypeId → (t : Ty) → Option (T t → T t → Bool)
 | 0, _, _ => none
 | n + 1, t, ty => match P.underlying t with
  | some .bool => match ty with | .bool => some fun (x y : Bool) => decide (x = y) | _ => none
  | some (.int _) => match ty with | .int _ => some fun (x y : Int) => decide (x = y) | _ => none
  | some .string => match ty with | .str => some fun (x y : List Int) => decide (x = y) | _ => none
  | some (.struct fs) => match ty with | .agg c => if P.stoodInHeld t then none else eqFs P (eqBy P n) fs.toList 0 c | _ => none
  | some (.array m e) => match ty with | .agg (.arr m' e') => if Nat.beq m m' && sizeOk P e e' then (eqBy P n e e').map fun g (xs ys : List (T e')) => eqLs g xs ys else none | _ => none
  | _ => none

def isNil : (t : Ty) → Option (T t → Bool)
 | .nili => some fun _ => true
 | .alt _ _ r => (isNil r).map fun f x => match x with | .inl _ => false | .inr y => f y
 | _ => none

def notNil {α : Type} : List α → Option Bool
 | [] => none
 | _ :: _ => some false

def nilTest (L : Look) (u : TypeDesc) (e : EV) : Option (Option Bool) :=
 match u with
 | .pointer _ => match e with
  | .loc _ _ => some (some false)
  | .oel _ _ _ _ _ => some (some false)
  | .ref _ => some (some false)
  | .cst (.pointer none) => some (some true)
  | e => (e.rd L).bind fun d => match d with
   | ⟨.nilp, some _⟩ => some (some true)
   | ⟨.ptr _, o⟩ => some (o.map fun x => x.isNone)
   | ⟨.box _, o⟩ => some (o.map fun x => x.isNone)
   | _ => none
 | .interface _ => match e with
  | .cst .nilIface => some (some true)
  | e => (e.rd L).bind fun d => (isNil d.ty).map fun f => d.val.map f
 | .slice _ => match e with
  | .cst (.slice none 0 0) => some (some true)
  | e => (e.rd L).bind fun d => match d with
   | ⟨.nils _, some _⟩ => some (some true)
   | ⟨.slice _, some xs⟩ => some (notNil xs)
   | _ => none
 | .func .. => match e with
  | .fn _ _ => some (some false)
  | _ => none
 | _ => none

def EV.nilCst : EV → Bool
 | .cst (.pointer none) => true
 | .cst .nilIface => true
 | .cst .nilFunc => true
 | .cst (.slice none 0 0) => true
 | _ => false

def nilFits (u : TypeDesc) (e : EV) : Bool :=
 match u with
 | .pointer _ => match e with | .cst (.pointer none) => true | _ => false
 | .interface _ => match e with | .cst .nilIface => true | _ => false
 | .slice _ => match e with | .cst (.slice none 0 0) => true | _ => false
 | .func .. => match e with | .cst .nilFunc => true | _ => false
 | _ => false

def isConst : Operand → Bool
 | .const _ => true
 | _ => false

def binOp (P : Program) (L : Look) (op : BinOp) (xType : TypeId) (x y : EV) (yc : Bool) : Option ORes :=
 if y.nilCst then
  if yc then (P.underlying xType).bind fun u => if nilFits u y then (nilTest L u x).bind fun b => match op with
   | .eql => some (ODyn.res ⟨.bool, b⟩ fun d => ⟨.val d, []⟩)
   | .neq => some (ODyn.res ⟨.bool, b.map fun b => !b⟩ fun d => ⟨.val d, []⟩)
   | _ => none
  else none else none
 else
 match op with
 | .shl => (x.int? L).bind fun a => (y.int? L).map fun b => ODyn.res ⟨.int a.1, a.2.bind fun m => b.2.bind fun n => shlI a.1 m n⟩ fun d => ⟨.val d, []⟩
 | .shr => (x.int? L).bind fun a => (y.int? L).map fun b => ODyn.res ⟨.int a.1, a.2.bind fun m => b.2.bind fun n => shrI a.1 m n⟩ fun d => ⟨.val d, []⟩
 | op =>
  (x.fix P xType).bind fun x => (y.fix P xType).bind fun y => (x.rd L).bind fun a => (y.rd L).bind fun b =>
   match a, b with
   | ⟨.int k, some m⟩, ⟨.int k', some n⟩ => if k = k' then (intOp op k m n).map fun d => d.res fun d => ⟨.val d, []⟩ else none
   | ⟨.str, some m⟩, ⟨.str, some n⟩ => (strOp op m n).map fun d => d.res fun d => ⟨.val d, []⟩
   | ⟨s, some m⟩, ⟨t, some n⟩ => if h : s = t then (if P.eqGuardType P.depth xType then none else eqBy P 40 xType t).bind fun f => match op with
     | .eql => some (ORes.just ⟨.val ⟨.bool, f (h ▸ m) n⟩, []⟩)
     | .neq => some (ORes.just ⟨.val ⟨.bool, !f (h ▸ m) n⟩, []⟩)
     | _ => none
    else none
   | _, _ => none

def ambOp (P : Program) (L : Look) (op : BinOp) (xType : TypeId) (x y : EV) (yc : Bool) : Option ORes :=
 match yc, P.underlying xType, x.rd L with
 | true, some (.slice e), some ⟨.slice t, some xs⟩ => if nilFits (.slice e) y then match op with
   | .eql => some { α := Bool, run := some (List.isEmpty (α := T t) xs), dflt := false, out := fun b => ⟨bif b then .any else .val ⟨.bool, false⟩, []⟩, spl := boolSpl }
   | .neq => some { α := Bool, run := some (List.isEmpty (α := T t) xs), dflt := false, out := fun b => ⟨bif b then .any else .val ⟨.bool, true⟩, []⟩, spl := boolSpl }
   | _ => none
  else none
 | _, _, _ => none

def unOp (P : Program) (L : Look) (op : UnOp) (xType : TypeId) (x : EV) : Option ORes :=
 (x.fix P xType).bind fun x => (x.rd L).bind fun a => match op, a with
  | .neg, ⟨.int k, some n⟩ => some (ORes.just ⟨.val ⟨.int k, k.wrap (0 - n)⟩, []⟩)
  | .xor, ⟨.int k, some n⟩ => some (ORes.just ⟨.val ⟨.int k, bitsI .xor k (if k.signed then -1 else k.max) n⟩, []⟩)
  | .not, ⟨.bool, some b⟩ => some (ORes.just ⟨.val ⟨.bool, !b⟩, []⟩)
  | _, _ => none

def runeI (n : Int) : List Int := bytesOf (Utf8.encode n)

def bldF (g : Nat → Option Dyn) : Nat → Ty → Option Dyn
 | _, .unit => some ⟨.unit, ()⟩
 | i, .pair a b => (match g i with
   | some y => if Nat.beq y.ty.size a.size then some y else none
   | none => some (⟨a, dflt a⟩ : Dyn)).bind fun (y : Dyn) => (bldF g (i + 1) b).map fun (z : Dyn) => (⟨.pair y.ty z.ty, (y.val, z.val)⟩ : Dyn)
 | _, _ => none

def bldL (e : Ty) (z : Option (T e)) (g : Nat → Option Dyn) : Nat → Nat → Option (List (T e))
 | _, 0 => some []
 | i, n + 1 => (match g i with | some y => y.as e | none => z).bind fun v => (bldL e z g (i + 1) n).map fun l => v :: l

def laid (P : Program) : Nat → List Field → Ty → Bool
 | _, [], .unit => true
 | off, f :: fs, .pair a b => Nat.beq f.offset off && sizeOk P f.type a && laid P (off + a.size) fs b
 | _, _, _ => false

def nodupK : List (Nat × Dyn) → Bool
 | [] => true
 | q :: r => !(r.any fun m => Nat.beq q.1 m.1) && nodupK r

def takeAll (L : Look) : List (Nat × EV) → Option (List (Nat × Dyn) × Upds)
 | [] => some ([], [])
 | (i, x) :: r => (x.take L).bind fun y => if y.2.any (fun m => r.any fun q => q.2.hits m.1 false) then none else match y.1 with
  | ⟨t, some v⟩ => (takeAll L r).map fun z => ((i, ⟨t, v⟩) :: z.1, y.2 ++ z.2)
  | _ => none

def frzKind : Ty → Bool
 | .slice (.int .u8) => true
 | _ => false

def EV.part (L : Look) (e : EV) : Option (ODyn × Upds) := match e.take L with
 | some r => bif r.1.ty.pure && frzKind r.1.ty then some r else e.mv L
 | none => e.mv L

def mvAll (L : Look) : List (Nat × EV) → Option (List (Nat × Dyn) × Upds)
 | [] => some ([], [])
 | (i, x) :: r => (x.part L).bind fun y => if y.2.any (fun m => r.any fun q => q.2.hits m.1 true) then none else match y.1 with
  | ⟨t, some v⟩ => (mvAll L r).map fun z => ((i, ⟨t, v⟩) :: z.1, y.2 ++ z.2)
  | _ => none

def kindOr (k : Ty) : List (Nat × Dyn) → Ty
 | [] => k
 | q :: _ => q.2.ty

def buildOp (P : Program) (L : Look) (E : Operand → Option EV) (dst : Nat) (t : TypeId) (ps : List (Nat × Operand)) : Option ORes :=
 match P.underlying t with
 | some (.struct fs) => (ps.mapM fun q => (E q.2).bind fun x => ((fs[q.1]?).bind fun f => x.fix P f.type).map fun x => (q.1, x)).bind fun xs => (mvAll L xs).bind fun r =>
   (zeroD P t).bind fun z => match z with
   | ⟨.agg zk, _⟩ => if laid P 0 fs.toList zk && nodupK r.1 && r.1.all (fun q => Nat.blt q.1 fs.size) then (bldF (fun i => lk i r.1) 0 zk).bind fun y => if y.ty.pure then some (ORes.just ⟨.val ⟨.agg y.ty, y.val⟩, r.2⟩) else some (ORes.just ⟨.at_ (nameOf dst 0) [], r.2 ++ [(nameOf dst 0, .new ⟨.agg y.ty, y.val⟩)]⟩) else none
   | _ => none
 | some (.array n e) => (ps.mapM fun q => (E q.2).bind fun x => (x.fix P e).map fun x => (q.1, x)).bind fun xs => (takeAll L xs).bind fun r =>
   (zeroD P t).bind fun z => match z with
   | ⟨.agg (.arr m k), _⟩ =>
     let e' := kindOr k r.1
     if Nat.beq m n && sizeOk P e e' && e'.pure && nodupK r.1 && Nat.beq k.size e'.size && r.1.all (fun q => Nat.blt q.1 n) then
      (bldL e' ((⟨k, dflt k⟩ : Dyn).as e') (fun i => lk i r.1) 0 n).map fun l => ORes.just ⟨.val ⟨.agg (.arr n e'), l⟩, r.2⟩
     else none
   | _ => none
 | _ => none

def buildSliceOp (P : Program) (L : Look) (E : Operand → Option EV) (dst : Nat) (t : TypeId) (n : Nat) (ps : List (Nat × Operand)) : Option ORes :=
 match P.underlying t with
 | some (.slice e) => (ps.mapM fun q => (E q.2).bind fun x => (x.fix P e).map fun x => (q.1, x)).bind fun xs => (takeAll L xs).bind fun r =>
   (zeroD P e).bind fun z =>
    let e' := kindOr z.ty r.1
    if sizeOk P e e' && e'.pure && !(Nat.beq e'.size 0) && Nat.ble (n * e'.size) 16777216 && nodupK r.1 && Nat.beq z.ty.size e'.size && r.1.all (fun q => Nat.blt q.1 n) then
     (bldL e' ((⟨z.ty, dflt z.ty⟩ : Dyn).as e') (fun i => lk i r.1) 0 n).map fun l => ORes.just ⟨.at_ (nameOf dst 0) [], r.2 ++ [(nameOf dst 0, .new ⟨.own e', l⟩)]⟩
    else none
 | _ => none

def updNames (u : Upds) : List Nat := u.map (·.1)

def ckI (i : Int) (n : Nat) : Option Unit := if 0 ≤ i ∧ i < n then some () else none

def subL {α : Type} (xs : List α) (lo hi : Int) : Option (List α) :=
 if 0 ≤ lo ∧ lo ≤ hi ∧ hi ≤ xs.length then some ((xs.take hi.toNat).drop lo.toNat) else none

def listAt (L : Look) (n : Nat) (p : Path) : Option ODyn := (L n).bind fun d => getP ⟨d.ty, some d.val⟩ p

def noAlt (u : Nat) : Ty → Bool
 | .nili => true
 | .alt v _ r => !(Nat.beq u v) && noAlt u r
 | _ => false

def Value.isAggV : Value → Bool
 | .agg _ => true
 | _ => false

def getAlt (u : Nat) : (t : Ty) → Option ((s : Ty) × (T t → Option (T s)))
 | .alt v s r => if u = v ∧ noAlt u r = true then some ⟨s, fun x => match x with | .inl y => some y | .inr _ => none⟩
   else if u = v then none else (getAlt u r).map fun g => ⟨g.1, fun x => match x with | .inl _ => none | .inr y => g.2 y⟩
 | _ => none

def isIface : Option TypeDesc → Bool
 | some (.interface _) => true
 | none => true
 | _ => false

def zeroAs (P : Program) (t : TypeId) (s : Ty) : Bool := match (P.info? t).bind (·.zero) with
 | some z => (Value.isAggV z == s.isAgg) && (match isZ s z.cells.toList with | some [] => true | _ => false)
 | none => false

def aliasOf : Operand → EV → EV
 | .tmp t, .val ⟨.alt u a r, x⟩ => .alias t false ⟨.alt u a r, x⟩
 | _, e => e

def payEv (t : Nat) : EV → EV
 | .val ⟨.ptr a, x⟩ => .alias t true ⟨.ptr a, x⟩
 | .tup [.val ⟨.ptr a, x⟩, b] => .tup [.alias t true ⟨.ptr a, x⟩, b]
 | e => e

def payRes : EV → ORes → ORes
 | .alias t false _, r => { r with out := fun y => ⟨payEv t (r.out y).ev, (r.out y).upd⟩ }
 | _, r => r

def aliasEq (P : Program) (xt : TypeId) : BinOp → EV → EV → Option ORes
 | .eql, .alias t true ⟨.ptr τ, u⟩, .alias t' true ⟨.ptr _, v⟩ => if Nat.beq t t' then (match P.underlying xt with
   | some (.pointer e) => if sizeOk P e τ && !(Nat.beq τ.size 0) then some (ORes.just ⟨.val ⟨.bool, u.isSome == v.isSome⟩, []⟩) else none
   | _ => none) else none
 | _, _, _ => none

def assertOp (P : Program) (at_ : TypeId) (commaOk : Bool) (d : ODyn) : Option ORes :=
 if isIface (P.underlying at_) then none else
 match getAlt at_ d.ty with
 | some ⟨s, g⟩ => if s.pure then
   if commaOk then if zeroAs P at_ s then some ⟨d.val.map g, none, fun o => ⟨.tup [.val ⟨s, o.getD (Pv.dflt s)⟩, .val ⟨.bool, o.isSome⟩], []⟩⟩ else none
   else some ⟨d.val.bind g, Pv.dflt s, fun v => ⟨.val ⟨s, v⟩, []⟩⟩
  else none
 | none => if commaOk && noAlt at_ d.ty then (tyId P at_).bind fun s => if zeroAs P at_ s then some ⟨d.val.map fun _ => (), (), fun _ => ⟨.tup [.val ⟨s, Pv.dflt s⟩, .val ⟨.bool, false⟩], []⟩⟩ else none
  else none

def optI (L : Look) : Option EV → Option (Option (Option Int))
 | none => some none
 | some e => (e.int? L).map fun r => some r.2

def lenFits : Option TypeDesc → Ty → Bool
 | some .string, .str => true
 | some (.slice _), .slice _ => true
 | some (.slice _), .own _ => true
 | some (.slice _), .app _ => true
 | some (.slice _), .nils _ => true
 | _, _ => false

def lenOf : (t : Ty) → Option (T t → Int)
 | .str => some fun (x : List Int) => (x.length : Int)
 | .slice e => some fun (x : List (T e)) => (x.length : Int)
 | .own e => some fun (x : List (T e)) => (x.length : Int)
 | .app e => some fun (x : List (T e)) => (x.length : Int)
 | .nils _ => some fun _ => 0
 | _ => none

def elems : (t : Ty) → Option ((e : Ty) × (T t → List (T e)))
 | .str => some ⟨.int .u8, fun (x : List Int) => x⟩
 | .slice e => some ⟨e, fun (x : List (T e)) => x⟩
 | .own e => some ⟨e, fun (x : List (T e)) => x⟩
 | .app e => some ⟨e, fun (x : List (T e)) => x⟩
 | .nils e => some ⟨e, fun _ => []⟩
 | _ => none

def roomI {α : Type} (bytes : Nat) (xs ys : List α) : Option (List α) := if (xs.length + ys.length) * bytes ≤ 140737488355328 then some (xs ++ ys) else none

def mkI {α : Type} (bytes : Nat) (l c : Int) (z : α) : Option (List α) := if 0 ≤ l ∧ l ≤ c ∧ c * bytes ≤ 140737488355328 then some (List.replicate l.toNat z) else none

def minI (x y : Int) : Int := if x ≤ y then x else y
def maxI (x y : Int) : Int := if x ≤ y then y else x

structure ABase where
 e : Ty
 xs : List (T e)
 app : Bool
 upd : Upds

def appBase (L : Look) : EV → Option ABase
 | .at_ n p => (L n).bind fun o => (getP ⟨o.ty, some o.val⟩ p).bind fun y => match y with
  | ⟨.own e, some xs⟩ => (setP ⟨o.ty, some o.val⟩ p ⟨.junk, some ()⟩).bind fun z => match z with
   | ⟨t, some v⟩ => some ⟨e, xs, false, [(n, .keep ⟨t, v⟩)]⟩
   | _ => none
  | ⟨.app e, some xs⟩ => (setP ⟨o.ty, some o.val⟩ p ⟨.junk, some ()⟩).bind fun z => match z with
   | ⟨t, some v⟩ => some ⟨e, xs, true, [(n, .keep ⟨t, v⟩)]⟩
   | _ => none
  | _ => none
 | .val ⟨.nils e, _⟩ => some ⟨e, [], false, []⟩
 | .clip e xs => some ⟨e, xs, true, []⟩
 | _ => none

def retype (t : Ty) : EV → EV
 | .val ⟨.nils _, _⟩ => .val ⟨.nils t, ()⟩
 | e => e

def mkApp : Bool → (e : Ty) → List (T e) → Dyn
 | true, e, xs => ⟨.app e, xs⟩
 | false, e, xs => ⟨.own e, xs⟩

def EV.arg0 (L : Look) : EV → Option (Option AV × List (Nat × Path) × Upds)
 | .loc n p => (listAt L n p).bind fun y => match y.val with
   | some v => some (some (.obj ⟨y.ty, v⟩), [(n, p)], [])
   | none => none
 | .ref d => some (some (.ref d), [], [])
 | .fn f [] => some (some (.fn f []), [], [])
 | .fn f [.loc n p] => (listAt L n p).bind fun y => match y.val with
   | some v => some (some (.fno f ⟨y.ty, v⟩), [(n, p)], [])
   | none => none
 | e => (e.take L).bind fun r => match r.1.val with
   | some v => some (some (.val ⟨r.1.ty, v⟩), [], r.2)
   | none => none

def EV.arg (L : Look) (own : Bool) (e : EV) : Option (Option AV × List (Nat × Path) × Upds) := bif own then (match appBase L e with
  | some b => some (some (.own (mkApp b.app b.e b.xs)), [], b.upd)
  | none => e.arg0 L) else e.arg0 L

def argAll (L : Look) (own : Nat → Bool) (fix : Nat → EV → Option EV) : Nat → List EV → Option (List AV × List (Nat × Path) × Upds)
 | _, [] => some ([], [], [])
 | i, x :: r => (fix i x).bind fun x => (x.arg L (own i)).bind fun y => match y with
  | (some a, os, u) => if u.any (fun m => r.any fun q => q.hits m.1 true) then none else (argAll L own fix (i + 1) r).map fun z => (a :: z.1, os ++ z.2.1, u ++ z.2.2)
  | _ => none

def noOwn : List AV → Bool
 | [] => true
 | .own _ :: _ => false
 | _ :: l => noOwn l

def nodupN : List Nat → Bool
 | [] => true
 | n :: r => !(r.any fun m => Nat.beq n m) && nodupN r

def backRs (dst : Nat) : Nat → List RV → List EV × Upds
 | _, [] => ([], [])
 | i, r :: l =>
  let z := backRs dst (i + 1) l
  match r with
  | .val d => (.val d :: z.1, z.2)
  | .own d => (.at_ (nameOf dst i) [] :: z.1, (nameOf dst i, .new d) :: z.2)
  | .ptr d => (.loc (nameOf dst i) [] :: z.1, (nameOf dst i, .new d) :: z.2)

def backOs (L : Look) : List (Nat × Path) → List Dyn → Option (Upds)
 | [], [] => some []
 | (n, p) :: r, d :: l => (L n).bind fun o => (setP ⟨o.ty, some o.val⟩ p ⟨d.ty, some d.val⟩).bind fun y => match y.val with
  | some v => (backOs L r l).map fun z => (n, .set ⟨y.ty, v⟩) :: z
  | none => none
 | _, _ => none

def tupOf : List EV → EV
 | [e] => e
 | l => .tup l

def callRes (L : Look) (dst : Nat) (os : List (Nat × Path)) (u : Upds) (rs : List RV) (ds : List Dyn) : Res :=
 let b := backRs dst 0 rs
 match backOs L os ds with
 | some w => ⟨tupOf b.1, u ++ (w ++ b.2)⟩
 | none => ⟨.dead, []⟩

def fldPath : Path → Bool
 | [] => true
 | .fld _ :: p => fldPath p
 | .idx _ :: _ => false

def objFit (L : Look) : List (Nat × Path) → List Ty → Bool
 | [], [] => true
 | (n, p) :: r, t :: l => (match listAt L n p with
   | some y => decide (sk y.ty = sk t) && fldPath p && !(Nat.beq y.ty.size 0)
   | none => false) && objFit L r l
 | _, _ => false

def lent (avs : List AV) (a : Alt) : Bool := noOwn avs && (a.1.all (fun r => r.ty.flat) && a.2.all Ty.flat)

def callOp (Γ : Nat → Option CSem) (L : Look) (dst : Nat) (f : Nat) (fix : Nat → EV → Option EV) (args : List EV) : Option ORes :=
 (Γ f).bind fun sem => (argAll L sem.own fix 0 args).bind fun a => (sem.run a.1).bind fun s => (altD s.alts).bind fun dv =>
  if nodupN (a.2.1.map (·.1)) && !(a.2.1.any fun x => (updNames a.2.2).any fun m => Nat.beq x.1 m) && s.alts.all (fun t => objFit L a.2.1 t.2 && t.1.all RK.ok) then
   some { α := AltT s.alts, run := s.run, dflt := dv, out := fun x => callRes L dst a.2.1 (bif lent a.1 (altR s.alts x).1 then [] else a.2.2) (resL (altR s.alts x).1.1 (altR s.alts x).2.1) (objsL (altR s.alts x).1.2 (altR s.alts x).2.2), spl := altSpl s.alts }
  else none

def sortOp (L : Look) (z : Srt) : List EV → Option ORes
 | [.at_ n [], .fn g []] => if Nat.beq g z.g then (L n).bind fun d => match d with
   | ⟨.own e, xs⟩ => if h : e = z.e then some { α := List (T z.e), run := z.F (h ▸ xs), dflt := [], out := fun ys => ⟨.tup [], [(n, .keep ⟨.own z.e, ys⟩)]⟩ } else none
   | _ => none
  else none
 | _ => none

def payOp (P : Program) (L : Look) (at_ : TypeId) : List EV → Option ORes
 | [x] => (x.rd L).bind fun d => (assertOp P at_ false d).map (payRes x)
 | _ => none

def callS (P : Program) (Γ : Nat → Option CSem) (L : Look) (dst : Nat) (f : Nat) (fix : Nat → EV → Option EV) (args : List EV) : Option ORes :=
 match (Γ f).bind CSem.sort with
 | some z => sortOp L z args
 | none => match (Γ f).bind CSem.pay with
  | some at_ => payOp P L at_ args
  | none => callOp Γ L dst f fix args

def methodOf (P : Program) (u : TypeId) (name : String) : Option Nat :=
 (P.info? u).bind fun i => (i.methods.find? (·.name == name)).bind fun m => match m.path.toList, m.func, P.underlying u with
  | [], some (f, pr), some (.pointer _) => if pr then some f else none
  | [], some (f, pr), some _ => if pr then none else some f
  | _, _, _ => none

def invSem (P : Program) (Γ : Nat → Option CSem) (u : TypeId) (name : String) (d : Dyn) : Option SRes :=
 (methodOf P u name).bind fun f => (Γ f).bind fun sem => if sem.own 0 then none else sem.run [.val d]

def invRun (P : Program) (Γ : Nat → Option CSem) (name : String) (A : List Alt) : (t : Ty) → T t → Option (AltT A)
 | .alt u t r, x => match x with
  | .inl y => if t.pure then (invSem P Γ u name ⟨t, y⟩).bind fun s => if h : s.alts = A then (h ▸ s.run) else none else none
  | .inr y => invRun P Γ name A r y
 | _, _ => none

def invAlts (P : Program) (Γ : Nat → Option CSem) (name : String) : Ty → Option (List Alt)
 | .alt u t _ => (invSem P Γ u name ⟨t, dflt t⟩).map (·.alts)
 | _ => none

def invOp (P : Program) (Γ : Nat → Option CSem) (L : Look) (dst : Nat) (name : String) (d : ODyn) : Option ORes :=
 (invAlts P Γ name d.ty).bind fun A => (altD A).bind fun dv =>
  if A.all (fun t => objFit L [] t.2 && t.1.all RK.ok) then
   some { α := AltT A, run := d.val.bind fun x => invRun P Γ name A d.ty x, dflt := dv, out := fun x => callRes L dst [] [] (resL (altR A x).1.1 (altR A x).2.1) (objsL (altR A x).1.2 (altR A x).2.2), spl := altSpl A }
  else none

def fldOk (P : Program) (fd : Field) (f : Nat) (t : Ty) : Bool := match offS t (.fld f) with
 | some (o, u) => Nat.beq o fd.offset && sizeOk P fd.type u && !(Nat.beq u.size 0)
 | none => false

def pickOp (P : Program) (L : Look) (E Ea Eb : Operand → Option EV) (c a b : Operand) (ty : TypeId) : Option ORes :=
 (E c).bind fun c => (c.rd L).bind fun c => match c with
  | ⟨.bool, some c⟩ => (Ea a).bind fun a => match a with
   | .none_ => (Eb b).bind fun b => (b.fix P ty).bind fun b => (b.rd L).bind fun b => match b with
    | ⟨t, some y⟩ => if t.pure then some ⟨bif c then none else some y, Pv.dflt t, fun y => ⟨.val ⟨t, y⟩, []⟩⟩ else none
    | _ => none
   | a => (a.fix P ty).bind fun a => (a.rd L).bind fun a => (Eb b).bind fun b => match b with
    | .none_ => match a with
     | ⟨t, some x⟩ => if t.pure then some ⟨bif c then some x else none, Pv.dflt t, fun y => ⟨.val ⟨t, y⟩, []⟩⟩ else none
     | _ => none
    | b => (b.fix P ty).bind fun b => (b.rd L).bind fun b =>
     match a, b with
     | ⟨s, some x⟩, ⟨t, some y⟩ => if h : s = t then (if t.pure then some (ORes.just ⟨.val ⟨t, bif c then h ▸ x else y⟩, []⟩) else none) else none
     | _, _ => none
  | _ => none

def ifaceOp (P : Program) (L : Look) (t : TypeId) (x : EV) : Option ORes :=
 match x with
 | .loc n [] => (L n).bind fun d => if Nat.beq (n % 2) 0 && (frz d.ty).pure then some (ORes.just ⟨.val ⟨.alt t (.ptr (frz d.ty)) .nili, .inl (some (frzV d.ty d.val))⟩, [(n, .del)]⟩) else none
 | x => (x.fix P t).bind fun x => (x.take L).bind fun r => if sizeOk P t r.1.ty then some ⟨r.1.val, Pv.dflt r.1.ty, fun v => ⟨.val ⟨.alt t r.1.ty .nili, .inl v⟩, r.2⟩⟩ else none

def sliceOp (P : Program) (t : TypeId) (r : ODyn × Upds) (lo hi mx : Option (Option Int)) : Option ORes :=
 match P.underlying t with
 | some .string => match r.1, mx with
  | ⟨.str, some s⟩, none => some ⟨Option.bind (match lo with | some l => l | none => some 0) fun l => Option.bind (match hi with | some h => h | none => some ((s : List Int).length : Int)) fun h => subL (s : List Int) l h, [], fun (x : List Int) => ⟨.val ⟨.str, x⟩, r.2⟩⟩
  | _, _ => none
 | some (.slice et) => match r.1, mx with
  | ⟨.slice e, s⟩, none => if sizeOk P et e then some ⟨s.bind fun (s : List (T e)) => Option.bind (match lo with | some l => l | none => some 0) fun l => Option.bind (match hi with | some h => h | none => some (s.length : Int)) fun h => subL s l h, [], fun (x : List (T e)) => ⟨.val ⟨.slice e, x⟩, r.2⟩⟩ else none
  | ⟨.slice e, s⟩, some m => if sizeOk P et e then some ⟨s.bind fun (s : List (T e)) => Option.bind (match lo with | some l => l | none => some 0) fun l => Option.bind (match hi with | some h => h | none => none) fun h => m.bind fun m => if m = h then subL s l h else none, [], fun (xs : List (T e)) => ⟨.clip e xs, r.2⟩⟩ else none
  | _, _ => none
 | _ => none

def zeroSz (P : Program) (t : TypeId) (n : Nat) : Bool := match (P.info? t).bind (·.zero) with
 | some z => Nat.beq z.cells.size n
 | none => false

def appendOp (P : Program) (L : Look) (dst : Nat) (t t2 : TypeId) (x : EV) (ys : ODyn) : Option ORes :=
 match P.underlying t, elems ys.ty with
 | some (.slice e), some g => if sizeOk P e g.1 && g.1.pure && !(Nat.beq g.1.size 0) && lenFits (P.underlying t2) ys.ty && Nat.blt 0 (P.bytesOf e) && zeroSz P e g.1.size then
   (appBase L (retype g.1 x)).bind fun b => if h : g.1 = b.e then
    some ⟨ys.val.bind fun ys => roomI (P.bytesOf e) b.xs (h ▸ g.2 ys : List (T b.e)), [], fun (r : List (T b.e)) => ⟨.at_ (nameOf dst 0) [], b.upd ++ [(nameOf dst 0, .new (mkApp b.app b.e r))]⟩⟩
   else none
  else none
 | _, _ => none

def isU8 (P : Program) (e : TypeId) : Bool := match P.underlying e with
 | some (.int .u8) => true
 | _ => false

def strB (l : List Int) : ByteArray := ⟨(l.map fun v => v.toNat.toUInt8).toArray⟩

def runeAt (l : List Int) (p : Int) : Int × Int := (((Utf8.decode (strB l) p.toNat).1 : Nat), ((Utf8.decode (strB l) p.toNat).2 : Nat))

def nextS (y : List Int × Int) : Unit ⊕ (Int × Int) := if y.2 < (y.1.length : Int) then .inr ((runeAt y.1 y.2).1, y.2 + (runeAt y.1 y.2).2) else .inl ()

def sumS {α β γ : Type} (k : α ⊕ β → Option γ) (x : α ⊕ β) : Option γ := match x with
 | .inl y => k (.inl y)
 | .inr y => k (.inr y)

theorem sumS_eq {α β γ : Type} (k : α ⊕ β → Option γ) (x : α ⊕ β) : sumS k x = k x := by cases x <;> rfl

@[reducible] def sumSpl (α β : Type) : Spl (α ⊕ β) := ⟨sumS, sumS_eq⟩

def nextOut (n : Nat) (y : List Int × Int) : Unit ⊕ (Int × Int) → Res
 | .inl _ => ⟨.tup [.val ⟨.bool, false⟩], []⟩
 | .inr q => ⟨.tup [.val ⟨.bool, true⟩, .val ⟨.int .i64, y.2⟩, .val ⟨.int .i32, q.1⟩], [(n, .keep ⟨.iter, (y.1, q.2)⟩)]⟩

def rangeOp (P : Program) (L : Look) (dst : Nat) (t : TypeId) (x : EV) : Option ORes := match P.underlying t with
 | some .string => (x.rd L).bind fun d => match d with
  | ⟨.str, some s⟩ => some (ORes.just ⟨.at_ (nameOf dst 0) [], [(nameOf dst 0, .new ⟨.iter, (s, 0)⟩)]⟩)
  | _ => none
 | _ => none

def nextOp (L : Look) (x : EV) : Option ORes := match x with
 | .at_ n [] => (L n).bind fun d => match d with
  | ⟨.iter, y⟩ => some { α := Unit ⊕ (Int × Int), run := some (nextS y), dflt := .inl (), out := nextOut n y, spl := sumSpl _ _ }
  | _ => none
 | _ => none

def evalOp (P : Program) (Γ : Nat → Option CSem) (L : Look) (E : Operand → Option EV) (dst : Nat) (op : Op) (ty : TypeId) : Option ORes :=
 match op with
 | .move z => (E z).bind fun x => (x.fix P ty).map fun x => ORes.just ⟨aliasOf z x, []⟩
 | .assign x => (E x).bind fun x => (x.fix P ty).map fun x => ORes.just ⟨x, []⟩
 | .pick c a b => pickOp P L E E E c a b ty
 | .alloc t => (zeroD P t).map fun d => ORes.just ⟨.loc (nameOf dst 0) [], [(nameOf dst 0, .new d)]⟩
 | .box t x => (E x).bind fun x => (x.fix P t).bind fun x => (x.mv L).bind fun r =>
   if sizeOk P t r.1.ty then some (r.1.res fun d => ⟨.loc (nameOf dst 0) [], r.2 ++ [(nameOf dst 0, .new d)]⟩) else none
 | .build t ps => buildOp P L E dst t ps.toList
 | .buildSlice t n ps => buildSliceOp P L E dst t n ps.toList
 | .makeSlice t l c => (E l).bind fun l => (E c).bind fun c => (l.int? L).bind fun l => (c.int? L).bind fun c => match P.underlying t with
   | some (.slice e) => (zeroD P e).bind fun z => if sizeOk P e z.ty && z.ty.pure && !(Nat.beq z.ty.size 0) && Nat.blt 0 (P.bytesOf e) then
     some ⟨l.2.bind fun l => c.2.bind fun c => mkI (P.bytesOf e) l c z.val, [], fun (xs : List (T z.ty)) => ⟨.at_ (nameOf dst 0) [], [(nameOf dst 0, .new ⟨.own z.ty, xs⟩)]⟩⟩
    else none
   | _ => none
 | .load t a => (E a).bind fun a => match a with
   | .loc n p => (listAt L n p).bind fun y => if sizeOk P t y.ty then (if y.ty.pure then some (y.res fun d => ⟨.val d, []⟩) else some (y.res fun _ => ⟨.at_ n p, []⟩)) else none
   | .ref d => if sizeOk P t d.ty then some (ORes.just ⟨.val d, []⟩) else none
   | .oel n p e0 i q => (listAt L n p).bind fun y => match y with
     | ⟨.own e, some xs⟩ => if e0 = e then (getP ⟨e, rdI xs i⟩ q).bind fun z => if sizeOk P t z.ty && z.ty.pure then some (z.res fun d => ⟨.val d, []⟩) else none else none
     | _ => none
   | _ => none
 | .store t a x => (E a).bind fun a => (E x).bind fun x => (x.fix P t).bind fun x => match a with
   | .loc n p => (x.mv L).bind fun r => if sizeOk P t r.1.ty && !(Nat.beq r.1.ty.size 0) && !((updNames r.2).any fun m => Nat.beq n m) then
     (L n).bind fun o => (getP ⟨o.ty, some o.val⟩ p).bind fun old => if sk old.ty = sk r.1.ty then
      (setP ⟨o.ty, some o.val⟩ p r.1).map fun y => y.res fun d => ⟨.dead, r.2 ++ [(n, .set d)]⟩
     else none
    else if sizeOk P t r.1.ty && Nat.beq r.1.ty.size 0 then some (r.1.res fun _ => ⟨.dead, r.2⟩) else none
   | .oel n p e0 i q => (x.take L).bind fun r => if sizeOk P t r.1.ty && !(Nat.beq r.1.ty.size 0) && !((updNames r.2).any fun m => Nat.beq n m) then
     (L n).bind fun o => (getP ⟨o.ty, some o.val⟩ p).bind fun y => match y with
     | ⟨.own e, some xs⟩ => if e0 = e ∧ e.pure = true then (getP ⟨e, rdI xs i⟩ q).bind fun old => if sk old.ty = sk r.1.ty then (setP ⟨e, rdI xs i⟩ q r.1).bind fun z => if h : z.ty = e then
       (setP ⟨o.ty, some o.val⟩ p ⟨.own e, (h ▸ z.val : Option (T e)).bind fun v => stI xs i v⟩).map fun y => y.res fun d => ⟨.dead, r.2 ++ [(n, .keep d)]⟩
      else none else none else none
     | _ => none
    else none
   | _ => none
 | .nilCheck x => (E x).bind fun x => match x with
   | .loc n p => some (ORes.just ⟨.loc n p, []⟩)
   | .oel n p e i q => some (ORes.just ⟨.oel n p e i q, []⟩)
   | .ref d => some (ORes.just ⟨.ref d, []⟩)
   | .fn f c => some (ORes.just ⟨.fn f c, []⟩)
   | x => (x.rd L).bind fun d => match d with
    | ⟨.ptr t, o⟩ => if t.pure then some ⟨o.bind id, Pv.dflt t, fun v => ⟨.ref ⟨t, v⟩, []⟩⟩ else none
    | _ => none
 | .binOp op xt x y _ => (E x).bind fun ex => (E y).bind fun ey => match aliasEq P xt op ex ey with
  | some r => some r
  | none => match ambOp P L op xt ex ey (isConst y) with
   | some r => some r
   | none => binOp P L op xt ex ey (isConst y)
 | .unOp op xt x => (E x).bind fun x => unOp P L op xt x
 | .convert s t x => (E x).bind fun x => (x.fix P s).bind fun x => (P.underlying t).bind fun u => (P.underlying s).bind fun w =>
   match w, u with
   | .int _, .int k => (x.rd L).bind fun d => match d with
     | ⟨.int _, n⟩ => some (ODyn.res ⟨.int k, n.map fun n => k.wrap n⟩ fun d => ⟨.val d, []⟩)
     | _ => none
   | .int _, .string => (x.rd L).bind fun d => match d with
     | ⟨.int _, some n⟩ => some (ORes.just ⟨.val ⟨.str, runeI n⟩, []⟩)
     | _ => none
   | .string, .string => (x.rd L).bind fun d => match d with
     | ⟨.str, some _⟩ => some (ORes.just ⟨x, []⟩)
     | _ => none
   | .slice e, .string => if isU8 P e then (x.rd L).bind fun d => match d with
     | ⟨.slice (.int .u8), some xs⟩ => some (ORes.just ⟨.val ⟨.str, xs⟩, []⟩)
     | ⟨.own (.int .u8), some xs⟩ => some (ORes.just ⟨.val ⟨.str, xs⟩, []⟩)
     | ⟨.app (.int .u8), some xs⟩ => some (ORes.just ⟨.val ⟨.str, xs⟩, []⟩)
     | ⟨.nils _, some _⟩ => some (ORes.just ⟨.val ⟨.str, []⟩, []⟩)
     | _ => none
    else none
   | .string, .slice e => if isU8 P e then (x.rd L).bind fun d => match d with
     | ⟨.str, some s⟩ => some (ORes.just ⟨.at_ (nameOf dst 0) [], [(nameOf dst 0, .new ⟨.own (.int .u8), s⟩)]⟩)
     | _ => none
    else none
   | _, _ => none
 | .slice t x lo hi mx => (E x).bind fun x => (x.fix P t).bind fun x => (x.take L).bind fun r =>
   (match lo with | none => some none | some o => (E o).map some).bind fun lo => (match hi with | none => some none | some o => (E o).map some).bind fun hi =>
   (match mx with | none => some none | some o => (E o).map some).bind fun mx => (optI L lo).bind fun lo => (optI L hi).bind fun hi => (optI L mx).bind fun mx =>
   sliceOp P t r lo hi mx
 | .fieldAddr s x f => (E x).bind fun x => match P.underlying s with
   | some (.struct fs) => (fs[f]?).bind fun fd =>
    match x with
    | .loc n p => (listAt L n p).bind fun y => if fldOk P fd f y.ty then some (ORes.just ⟨.loc n (p ++ [.fld f]), []⟩) else none
    | .oel n p e i q => (offP e q).bind fun z => if fldOk P fd f z.2 then some (ORes.just ⟨.oel n p e i (q ++ [.fld f]), []⟩) else none
    | .ref d => if fldOk P fd f d.ty then (getS ⟨d.ty, some d.val⟩ (.fld f)).map fun y => y.res fun d => ⟨.ref d, []⟩ else none
    | _ => none
   | _ => none
 | .field s x f => (E x).bind fun x => match P.underlying s with
   | some (.struct fs) => (fs[f]?).bind fun fd =>
    (x.rd L).bind fun d => if fldOk P fd f d.ty && d.ty.pure then (getS d (.fld f)).map fun y => y.res fun d => ⟨.val d, []⟩ else none
   | _ => none
 | .indexAddr t x ix => (E x).bind fun x => (E ix).bind fun ix => (ix.int? L).bind fun i => match P.underlying t with
   | some (.array m e) => match x with
    | .loc n p => (listAt L n p).bind fun y => match y with
      | ⟨.agg (.arr m' e'), _⟩ => if Nat.beq m m' && sizeOk P e e' then some ⟨i.2.bind fun i => (ckI i m).map fun _ => i, 0, fun i => ⟨.loc n (p ++ [.idx i]), []⟩⟩ else none
      | _ => none
    | .ref d => match d with
      | ⟨.agg (.arr m' e'), xs⟩ => if Nat.beq m m' && sizeOk P e e' then some (ODyn.res ⟨e', i.2.bind fun i => rdI (xs : List (T e')) i⟩ fun d => ⟨.ref d, []⟩) else none
      | _ => none
    | _ => none
   | some (.slice e) => (x.fix P t).bind fun x => (x.rd L).bind fun y => match y, x with
    | ⟨.own e', some xs⟩, .at_ n p => if sizeOk P e e' then some ⟨i.2.bind fun i => (ckI i xs.length).map fun _ => i, 0, fun i => ⟨.oel n p e' i [], []⟩⟩ else none
    | ⟨.slice e', some xs⟩, _ => if sizeOk P e e' && e'.pure then some (ODyn.res ⟨e', i.2.bind fun i => rdI (xs : List (T e')) i⟩ fun d => ⟨.ref d, []⟩) else none
    | ⟨.app _, _⟩, _ => (x.take L).bind fun r => match r with
     | (⟨.slice e', some xs⟩, U) => if sizeOk P e e' && e'.pure then some (ODyn.res ⟨e', i.2.bind fun i => rdI (xs : List (T e')) i⟩ fun d => ⟨.ref d, U⟩) else none
     | _ => none
    | _, _ => none
   | _ => none
 | .index t x ix => (E x).bind fun x => (x.fix P t).bind fun x => (E ix).bind fun ix => (ix.int? L).bind fun i => (x.rd L).bind fun y => match P.underlying t, y with
   | some (.array m e), ⟨.agg (.arr m' e'), some xs⟩ => if Nat.beq m m' && sizeOk P e e' && e'.pure then some (ODyn.res ⟨e', i.2.bind fun i => rdI (xs : List (T e')) i⟩ fun d => ⟨.val d, []⟩) else none
   | some .string, ⟨.str, some s⟩ => some (ODyn.res ⟨.int .u8, i.2.bind fun i => rdI s i⟩ fun d => ⟨.val d, []⟩)
   | _, _ => none
 | .extract x i => (E x).bind fun x => match x with
   | .tup l => (l[i]?).map fun x => ORes.just ⟨x, []⟩
   | _ => none
 | .makeFunc (.func f) first caps => if first.isEmpty then (caps.toList.mapM E).map fun c => ORes.just ⟨.fn f c, []⟩ else none
 | .makeInterface t x => (E x).bind fun x => if isIface (P.underlying t) then none else ifaceOp P L t x
 | .typeAssert x xt at_ commaOk => (E x).bind fun x => (x.fix P xt).bind fun x => (x.rd L).bind fun d => (assertOp P at_ commaOk d).map (payRes x)
 | .range t x => (E x).bind fun x => (x.fix P t).bind fun x => rangeOp P L dst t x
 | .next x true => (E x).bind fun x => nextOp L x
 | .call c => match c.callee with
  | .builtin .len => match c.args.toList, c.argTypes.toList with
   | [x], t :: _ => (E x).bind fun x => (x.fix P t).bind fun x => (x.rd L).bind fun d => if lenFits (P.underlying t) d.ty then (lenOf d.ty).map fun g => ODyn.res ⟨.int .i64, d.val.map g⟩ fun d => ⟨.val d, []⟩ else none
   | _, _ => none
  | .builtin .min => match c.args.toList with
   | [x, y] => (E x).bind fun x => (E y).bind fun y => (x.int? L).bind fun a => (y.int? L).bind fun b => if a.1 = b.1 then some (ODyn.res ⟨.int a.1, a.2.bind fun m => b.2.map fun n => minI m n⟩ fun d => ⟨.val d, []⟩) else none
   | _ => none
  | .builtin .max => match c.args.toList with
   | [x, y] => (E x).bind fun x => (E y).bind fun y => (x.int? L).bind fun a => (y.int? L).bind fun b => if a.1 = b.1 then some (ODyn.res ⟨.int a.1, a.2.bind fun m => b.2.map fun n => maxI m n⟩ fun d => ⟨.val d, []⟩) else none
   | _ => none
  | .builtin .append => match c.args.toList, c.argTypes.toList with
   | [x, y], [t, t2] => (E x).bind fun x => (E y).bind fun y => (x.fix P t).bind fun x => (y.fix P t2).bind fun y => (y.rd L).bind fun ys => appendOp P L dst t t2 x ys
   | _, _ => none
  | .value (.func f) => (c.args.toList.mapM E).bind fun xs => callS P Γ L dst f (fun i x => (c.argTypes[i]?).bind fun t => x.fix P t) xs
  | .value (.tmp t) => (E (.tmp t)).bind fun g => match g with
   | .fn f caps => (c.args.toList.mapM E).bind fun xs => callOp Γ L dst f (fun i x => match c.argTypes[i]? with | some t => x.fix P t | none => some x) (xs ++ caps)
   | _ => none
  | .invoke z name => if c.args.isEmpty then (E z).bind fun x => (x.rd L).bind fun d => invOp P Γ L dst name d else none
  | _ => none
 | _ => none

mutual
def EV.hangs (t : Nat) : EV → Bool
 | .maybe t' _ _ v => Nat.beq t t' || v.hangs t
 | .alias t' _ _ => Nat.beq t t'
 | .tup l => EV.hangsL t l
 | .fn _ l => EV.hangsL t l
 | _ => false
def EV.hangsL (t : Nat) : List EV → Bool
 | [] => false
 | x :: r => x.hangs t || EV.hangsL t r
end

def kill (n : Nat) (hard : Bool) (env : Env) : Env := env.map fun x => (x.1, bif x.2.hits n hard then .dead else x.2)

def apply1 (u : Nat × Upd) (s : St) : St :=
 match u.2 with
 | .del => ⟨kill u.1 true s.env, rmv u.1 s.pl⟩
 | .new d => ⟨kill u.1 true s.env, put u.1 d s.pl⟩
 | .set d => ⟨kill u.1 false s.env, put u.1 d s.pl⟩
 | .keep d => ⟨s.env, put u.1 d s.pl⟩

def applyU : Upds → St → St
 | [], s => s
 | u :: r, s => applyU r (apply1 u s)

def unw (gs : List (Nat × Bool)) : EV → EV
 | .maybe t w c v => bif gs.any (fun q => Nat.beq q.1 t && (q.2 == w)) then v else .maybe t w c v
 | e => e

def Eop (env : Env) (gs : List (Nat × Bool)) : Operand → Option EV
 | .tmp t => (lk t env).map (unw gs)
 | .const v => some (.cst v)
 | .func f => some (.fn f [])
 | .global _ => none

def mergeU (b : Bool) (L : Look) : Upds → Option Upds
 | [] => some []
 | (n, .set d) :: r => (L n).bind fun o => if h : o.ty = d.ty then (mergeU b L r).map fun z => (n, .set ⟨d.ty, bif b then d.val else h ▸ o.val⟩) :: z else none
 | (n, .keep d) :: r => (L n).bind fun o => if h : o.ty = d.ty then (mergeU b L r).map fun z => (n, .keep ⟨d.ty, bif b then d.val else h ▸ o.val⟩) :: z else none
 | _ => none

def opE (P : Program) (Γ : Nat → Option CSem) (L : Look) (env : Env) (gs : List (Nat × Bool)) (dst : Nat) (op : Op) (ty : TypeId) : Option ORes :=
 match op with
 | .pick (.tmp t) a b => pickOp P L (Eop env gs) (Eop env ((t, true) :: gs)) (Eop env ((t, false) :: gs)) (.tmp t) a b ty
 | op => evalOp P Γ L (Eop env gs) dst op ty

def killM (t : Nat) (env : Env) : Env := env.map fun x => (x.1, bif x.2.hangs t then .dead else x.2)

def putE (d : Nat) (e : EV) (env : Env) : Env := put d e (killM d env)

def putO (nt : Nat) (dst : Option Nat) (e : EV) (s : St) : Option St := match dst with
 | some d => if Nat.blt d nt && !(e.hangs d) then some ⟨putE d e s.env, s.pl⟩ else none
 | none => some s

def boolOf (L : Look) (e : EV) : Option Bool := (e.rd L).bind fun d => match d with
 | ⟨.bool, some g⟩ => some g
 | _ => none

def gval (L : Look) : EV → Option (Bool × Bool)
 | .maybe _ _ c v => (boolOf L v).map fun g => (c, g)
 | e => (boolOf L e).map fun g => (true, g)

def guardE (ops : Array Oper) (s : St) (j : Nat) : Option (Nat × Bool × Bool) := (ops[j]?).bind fun o => o.dst.bind fun t => (lk t s.env).bind fun e => (gval (fun n => lk n s.pl) e).map fun g => (t, g)

def gcond (want : Bool) (g : Bool × Bool) : Bool := g.1 && (bif want then g.2 else !g.2)

def guardR {α β : Type} (b : Bool) (run : Option β) (d : β) (k : β → Option α) : Option α := match run with
 | some v => k (bif b then v else d)
 | none => bif b then none else k d

def unrun (ops : Array Oper) (s : St) (j : Nat) : Bool := match (ops[j]?).bind fun o => o.dst.bind fun t => lk t s.env with
 | some .none_ => true
 | _ => false

def evalOps {α : Type} (P : Program) (Γ : Nat → Option CSem) (nt : Nat) (ops : Array Oper) (k : St → Option α) : List Oper → St → Option α
 | [], s => k s
 | o :: r, s => match o.guard with
  | none => (opE P Γ (fun n => lk n s.pl) s.env [] (o.dst.getD 0) o.op o.type).bind fun e => e.run.bind fun x => e.spl.split (fun x => (putO nt o.dst (e.out x).ev (applyU (e.out x).upd s)).bind fun s => evalOps P Γ nt ops k r s) x
  | some (j, want) => bif unrun ops s j then (putO nt o.dst .none_ s).bind fun s => evalOps P Γ nt ops k r s else (guardE ops s j).bind fun tg => match opE P Γ (fun n => lk n s.pl) s.env [(tg.1, want)] (o.dst.getD 0) o.op o.type with
   | none => bif gcond want tg.2 then none else (putO nt o.dst .none_ s).bind fun s => evalOps P Γ nt ops k r s
   | some e => guardR (gcond want tg.2) e.run e.dflt fun x => e.spl.split (fun x => match mergeU (gcond want tg.2) (fun n => lk n s.pl) (e.out x).upd with
     | some u => (putO nt o.dst (.maybe tg.1 want (gcond want tg.2) (e.out x).ev) (applyU u s)).bind fun s => evalOps P Γ nt ops k r s
     | none => bif gcond want tg.2 then (putO nt o.dst (.maybe tg.1 want true (e.out x).ev) (applyU (e.out x).upd s)).bind fun s => evalOps P Γ nt ops k r s
      else (putO nt o.dst .none_ s).bind fun s => evalOps P Γ nt ops k r s) x

def evalRegion {α : Type} (P : Program) (Γ : Nat → Option CSem) (nt : Nat) (ops : Array Oper) (s : St) (k : St → Option α) : Option α := evalOps P Γ nt ops k ops.toList s

def keepOnly {α : Type} : List Nat → List (Nat × α) → Option (List (Nat × α))
 | [], _ => some []
 | n :: r, l => (lk n l).bind fun a => (keepOnly r l).map fun z => (n, a) :: z

def St.only (s : St) (ts ns : List Nat) : Option St := (keepOnly ts s.env).bind fun e => (keepOnly ns s.pl).map fun p => ⟨e, p⟩

end
end Go.Pv

namespace Go.Pv
noncomputable section

def Value.agg? : Value → Bool
 | .agg _ => true
 | _ => false

def Value.plain? : Value → Bool
 | .agg _ | .tuple _ => false
 | _ => true

def Rows (w : World) (b o : Nat) (cs : List Value) : Prop := ∀ i v, cs[i]? = some v → w.cell? ⟨b, o + i, none⟩ = some v

def RelL {α : Type} (R : α → List Value → List Nat → Prop) : List α → List Value → List Nat → Prop
 | [], cs, F => cs = [] ∧ F = []
 | x :: xs, cs, F => ∃ c1 c2 F1 F2, cs = c1 ++ c2 ∧ F = F1 ++ F2 ∧ R x c1 F1 ∧ RelL R xs c2 F2

def SlR {α : Type} (w : World) (B : Nat → Prop) (sz : Nat) (R : α → List Value → List Nat → Prop) (xs : List α) (v : Value) (clip : Bool) : Prop :=
 ∃ a cap cells, v = .slice a xs.length cap ∧ xs.length ≤ cap ∧ cap ≤ maxLen ∧ (clip = true → cap = xs.length) ∧ cells.length = xs.length * sz ∧ RelL R xs cells [] ∧
  match a with
  | none => cap = 0
  | some ad => xs = [] ∨ (ad.spot = none ∧ B ad.block ∧ Rows w ad.block ad.off cells)

def Blk (w : World) (b : Nat) (c : Array Value) : Prop := ∃ ty fr, w.heap[b]? = some (.cells c ty fr) ∧ ∀ o, o < c.size → (decide (fr.1 ≤ o) && decide (o < fr.2)) = false

def OwR {α : Type} (w : World) (sz : Nat) (R : α → List Value → List Nat → Prop) (xs : List α) (v : Value) (F : List Nat) : Prop :=
 (xs = [] ∧ v = .slice none 0 0 ∧ F = []) ∨
 ∃ b cap c F', v = .slice (some ⟨b, 0, none⟩) xs.length cap ∧ xs.length ≤ cap ∧ cap ≤ maxLen ∧ Blk w b c ∧ c.size = cap * sz ∧
  RelL R xs (c.toList.take (xs.length * sz)) F' ∧ F = b :: F'

def Rel (w : World) (B : Nat → Prop) : (t : Ty) → T t → List Value → List Nat → Prop
 | .int k, n, cs, F => cs = [.int k n] ∧ inR k n = true ∧ F = []
 | .bool, b, cs, F => cs = [.bool b] ∧ F = []
 | .str, s, cs, F => ∃ b, cs = [.string b] ∧ bytesOf b = s ∧ b.size ≤ maxLen ∧ F = []
 | .unit, _, cs, F => cs = [] ∧ F = []
 | .pair a b, x, cs, F => ∃ c1 c2 F1 F2, cs = c1 ++ c2 ∧ F = F1 ++ F2 ∧ Rel w B a x.1 c1 F1 ∧ Rel w B b x.2 c2 F2
 | .agg a, x, cs, F => Rel w B a x cs F
 | .arr n e, xs, cs, F => List.length (α := T e) xs = n ∧ RelL (Rel w B e) xs cs F
 | .slice e, xs, cs, F => F = [] ∧ ∃ v, cs = [v] ∧ SlR w B e.size (Rel w B e) xs v false
 | .own e, xs, cs, F => ∃ v, cs = [v] ∧ OwR w e.size (Rel w B e) xs v F
 | .app e, xs, cs, F => ∃ v, cs = [v] ∧ (OwR w e.size (Rel w B e) xs v F ∨ (F = [] ∧ SlR w B e.size (Rel w B e) xs v true))
 | .junk, _, cs, F => (∃ v, cs = [v] ∧ Value.plain? v = true) ∧ F = []
 | .ptr t, o, cs, F => F = [] ∧ match (o : Option (T t)) with
  | none => cs = [.pointer none]
  | some x => ∃ b off cells, cs = [.pointer (some ⟨b, off, none⟩)] ∧ B b ∧ Rows w b off cells ∧ Rel w B t x cells []
 | .box t, o, cs, F => match (o : Option (T t)) with
  | none => cs = [.pointer none] ∧ F = []
  | some x => ∃ b c F', cs = [.pointer (some ⟨b, 0, none⟩)] ∧ Blk w b c ∧ Rel w B t x c.toList F' ∧ F = b :: F'
 | .nils _, _, cs, F => cs = [.slice none 0 0] ∧ F = []
 | .nilp, _, cs, F => cs = [.pointer none] ∧ F = []
 | .nili, _, cs, F => cs = [.nilIface] ∧ F = []
 | .alt u t r, s, cs, F => F = [] ∧ match (s : T t ⊕ T r) with
  | .inl x => ∃ v, cs = [.iface u v] ∧ Rel w B t x v.cells.toList [] ∧ Value.agg? v = t.isAgg
  | .inr y => Rel w B r y cs [] ∧ cs.length = 1
 | .iter, x, cs, F => ∃ b s, cs = [.pointer (some ⟨b, 0, none⟩)] ∧ F = [b] ∧ w.heap[b]? = some (.stringIter s x.2.toNat) ∧ bytesOf s = x.1 ∧ s.size ≤ maxLen ∧ 0 ≤ x.2

def VR (w : World) (B : Nat → Prop) (t : Ty) (x : T t) (v : Value) (F : List Nat) : Prop := Rel w B t x v.cells.toList F ∧ Value.agg? v = t.isAgg

theorem RelL_mono {α : Type} {R R' : α → List Value → List Nat → Prop} (h : ∀ x cs F, R x cs F → R' x cs F) : ∀ xs cs F, RelL R xs cs F → RelL R' xs cs F
 | [], _, _, h0 => h0
 | _ :: xs, _, _, ⟨c1, c2, F1, F2, hc, hF, h1, h2⟩ => ⟨c1, c2, F1, F2, hc, hF, h _ _ _ h1, RelL_mono h xs c2 F2 h2⟩

theorem RelL_length {α : Type} {R : α → List Value → List Nat → Prop} {n : Nat} (h : ∀ x cs F, R x cs F → cs.length = n) : ∀ xs cs F, RelL R xs cs F → cs.length = xs.length * n
 | [], _, _, ⟨h0, _⟩ => by simp [h0]
 | x :: xs, _, _, ⟨c1, c2, F1, F2, hc, _, h1, h2⟩ => by
  subst hc
  have := RelL_length h xs c2 F2 h2
  have := h _ _ _ h1
  simp [List.length_append, Nat.add_mul, *]
  omega

theorem RelL_F {α : Type} {R : α → List Value → List Nat → Prop} (h : ∀ x cs F, R x cs F → F = []) : ∀ xs cs F, RelL R xs cs F → F = []
 | [], _, _, ⟨_, h0⟩ => h0
 | x :: xs, _, _, ⟨c1, c2, F1, F2, _, hF, h1, h2⟩ => by rw [hF, h _ _ _ h1, RelL_F h xs c2 F2 h2]; rfl

theorem RelL_append {α : Type} {R : α → List Value → List Nat → Prop} : ∀ (xs ys : List α) cs ds F G, RelL R xs cs F → RelL R ys ds G → RelL R (xs ++ ys) (cs ++ ds) (F ++ G)
 | [], ys, _, ds, _, G, ⟨h0, h1⟩, h => by subst h0; subst h1; simpa using h
 | x :: xs, ys, _, ds, _, G, ⟨c1, c2, F1, F2, hc, hF, h1, h2⟩, h => by
  subst hc; subst hF
  exact ⟨c1, c2 ++ ds, F1, F2 ++ G, by simp, by simp, h1, RelL_append xs ys c2 ds F2 G h2 h⟩

theorem RelL_of {α : Type} {R R' : α → List Value → List Nat → Prop} : ∀ {xs : List α} {cs : List Value} {F : List Nat}, RelL R xs cs F → (∀ x cs G, R x cs G → (∀ b ∈ G, b ∈ F) → R' x cs G) → RelL R' xs cs F
 | [], _, _, h, _ => h
 | x :: xs, _, _, ⟨c1, c2, F1, F2, hc, hF, h1, h2⟩, h => ⟨c1, c2, F1, F2, hc, hF, h _ _ _ h1 (fun b hb => by simp [hF, hb]), RelL_of h2 (fun x cs G hx hb => h x cs G hx (fun b hb' => by simp [hF, hb b hb']))⟩

theorem RelL_split {α : Type} {R : α → List Value → List Nat → Prop} {n : Nat} (hn : ∀ x cs F, R x cs F → cs.length = n) : ∀ (xs : List α) cs F (i : Nat) x, RelL R xs cs F → xs[i]? = some x →
  ∃ c1 c2 c3 F1 F2 F3, cs = c1 ++ c2 ++ c3 ∧ F = F1 ++ F2 ++ F3 ∧ c1.length = i * n ∧ R x c2 F2 ∧
   ∀ (R' : α → List Value → List Nat → Prop) y c2' F2', (∀ x cs F, R x cs F → (∀ b ∈ F, b ∈ F1 ++ F3) → R' x cs F) → R' y c2' F2' → RelL R' (xs.set i y) (c1 ++ c2' ++ c3) (F1 ++ F2' ++ F3)
 | [], _, _, _, _, _, h => by simp at h
 | x :: xs, _, _, 0, y, ⟨c1, c2, F1, F2, hc, hF, h1, h2⟩, h => by
  obtain rfl : x = y := by simpa using h
  refine ⟨[], c1, c2, [], F1, F2, by simpa using hc, by simpa using hF, by simp, h1, fun R' z c2' F2' hR hz => ⟨c2', c2, F2', F2, by simp, by simp, hz, ?_⟩⟩
  exact RelL_of h2 (fun x cs F h hb => hR x cs F h (by simpa using hb))
 | x :: xs, _, _, i + 1, y, ⟨c1, c2, F1, F2, hc, hF, h1, h2⟩, h => by
  obtain ⟨d1, d2, d3, G1, G2, G3, e1, e2, e3, e4, e5⟩ := RelL_split hn xs c2 F2 i y h2 (by simpa using h)
  subst hc; subst hF; subst e1; subst e2
  refine ⟨c1 ++ d1, d2, d3, F1 ++ G1, G2, G3, by simp, by simp, ?_, e4, fun R' z c2' F2' hR hz => ?_⟩
  ·have := hn _ _ _ h1
   simp [List.length_append, e3, this, Nat.add_mul]; omega
  ·exact ⟨c1, d1 ++ c2' ++ d3, F1, G1 ++ F2' ++ G3, by simp, by simp, hR _ _ _ h1 (fun b hb => by simp [hb]),
    e5 R' z c2' F2' (fun x cs F h hb => hR x cs F h (fun b hb' => by have := hb b hb'; simp at this ⊢; rcases this with h | h <;> simp [h])) hz⟩

theorem Rel_length (w : World) (B : Nat → Prop) : ∀ (t : Ty) (x : T t) cs F, Rel w B t x cs F → cs.length = t.size
 | .int _, _, _, _, h => by rw [h.1]; rfl
 | .bool, _, _, _, h => by rw [h.1]; rfl
 | .str, _, _, _, ⟨_, h, _⟩ => by rw [h]; rfl
 | .unit, _, _, _, h => by rw [h.1]; rfl
 | .pair a b, x, _, _, ⟨c1, c2, F1, F2, hc, _, h1, h2⟩ => by
  rw [hc, List.length_append, Rel_length w B a x.1 c1 F1 h1, Rel_length w B b x.2 c2 F2 h2]; rfl
 | .agg a, x, cs, F, h => Rel_length w B a x cs F h
 | .arr n e, xs, cs, F, ⟨hn, h⟩ => by
  have := RelL_length (fun x cs F => Rel_length w B e x cs F) xs cs F h
  rw [this, hn]; rfl
 | .slice _, _, _, _, ⟨_, _, h, _⟩ => by rw [h]; rfl
 | .own _, _, _, _, ⟨_, h, _⟩ => by rw [h]; rfl
 | .app _, _, _, _, ⟨_, h, _⟩ => by rw [h]; rfl
 | .junk, _, _, _, ⟨⟨_, h, _⟩, _⟩ => by rw [h]; rfl
 | .ptr t, o, cs, F, h => by
  obtain ⟨_, h⟩ := h
  cases o with
  | none => have h : cs = _ := h; rw [h]; rfl
  | some x => obtain ⟨_, _, _, h, _⟩ := h; rw [h]; rfl
 | .box t, o, cs, F, h => by
  cases o with
  | none => have h : cs = _ ∧ _ := h; rw [h.1]; rfl
  | some x => obtain ⟨_, _, _, h, _⟩ := h; rw [h]; rfl
 | .nils _, _, _, _, h => by rw [h.1]; rfl
 | .nilp, _, _, _, h => by rw [h.1]; rfl
 | .nili, _, _, _, h => by rw [h.1]; rfl
 | .alt u t r, s, cs, F, h => by
  obtain ⟨_, h⟩ := h
  cases s with
  | inl x => obtain ⟨_, h, _⟩ := h; rw [h]; rfl
  | inr y => exact h.2
 | .iter, _, _, _, ⟨_, _, h, _⟩ => by rw [h]; rfl

theorem RelL_plain {α : Type} {R : α → List Value → List Nat → Prop} (h : ∀ x cs F, R x cs F → ∀ c ∈ cs, Value.plain? c = true) : ∀ xs cs F, RelL R xs cs F → ∀ c ∈ cs, Value.plain? c = true
 | [], _, _, ⟨h0, _⟩, c, hc => by rw [h0] at hc; cases hc
 | x :: xs, _, _, ⟨c1, c2, F1, F2, hc, _, h1, h2⟩, c, hm => by
  rw [hc] at hm
  rcases List.mem_append.1 hm with hm | hm
  ·exact h _ _ _ h1 c hm
  ·exact RelL_plain h xs c2 F2 h2 c hm

theorem plain_one {cs : List Value} {v : Value} (h : cs = [v]) (hv : Value.plain? v = true) : ∀ c ∈ cs, Value.plain? c = true := by
 subst h; intro c hc; obtain rfl := List.mem_singleton.1 hc; exact hv

theorem OwR_plain {α : Type} {w : World} {sz : Nat} {R : α → List Value → List Nat → Prop} {xs : List α} {v : Value} {F : List Nat} (h : OwR w sz R xs v F) : Value.plain? v = true := by
 rcases h with ⟨_, h, _⟩ | ⟨_, _, _, _, h, _⟩ <;> rw [h] <;> rfl

theorem SlR_plain {α : Type} {w : World} {B : Nat → Prop} {sz : Nat} {R : α → List Value → List Nat → Prop} {xs : List α} {v : Value} {c : Bool} (h : SlR w B sz R xs v c) : Value.plain? v = true := by
 obtain ⟨_, _, _, h, _⟩ := h; rw [h]; rfl

theorem Rel_plain (w : World) (B : Nat → Prop) : ∀ (t : Ty) (x : T t) cs F, Rel w B t x cs F → ∀ c ∈ cs, Value.plain? c = true
 | .int _, _, _, _, h => plain_one h.1 rfl
 | .bool, _, _, _, h => plain_one h.1 rfl
 | .str, _, _, _, ⟨_, h, _⟩ => plain_one h rfl
 | .unit, _, _, _, h => by intro c hc; rw [h.1] at hc; cases hc
 | .pair a b, x, _, _, ⟨c1, c2, F1, F2, hc, _, h1, h2⟩ => by
  intro c hm
  rw [hc] at hm
  rcases List.mem_append.1 hm with hm | hm
  ·exact Rel_plain w B a x.1 c1 F1 h1 c hm
  ·exact Rel_plain w B b x.2 c2 F2 h2 c hm
 | .agg a, x, cs, F, h => Rel_plain w B a x cs F h
 | .arr n e, xs, cs, F, ⟨_, h⟩ => RelL_plain (fun x cs F h => Rel_plain w B e x cs F h) xs cs F h
 | .slice _, _, _, _, ⟨_, _, h, h1⟩ => plain_one h (SlR_plain h1)
 | .own _, _, _, _, ⟨_, h, h1⟩ => plain_one h (OwR_plain h1)
 | .app _, _, _, _, ⟨_, h, h1⟩ => plain_one h (h1.elim OwR_plain fun h => SlR_plain h.2)
 | .junk, _, _, _, ⟨⟨_, h, h1⟩, _⟩ => plain_one h h1
 | .ptr t, o, cs, F, h => by
  obtain ⟨_, h⟩ := h
  cases o with
  | none => exact plain_one h rfl
  | some x => obtain ⟨_, _, _, h, _⟩ := h; exact plain_one h rfl
 | .box t, o, cs, F, h => by
  cases o with
  | none => exact plain_one h.1 rfl
  | some x => obtain ⟨_, _, _, h, _⟩ := h; exact plain_one h rfl
 | .nils _, _, _, _, h => plain_one h.1 rfl
 | .nilp, _, _, _, h => plain_one h.1 rfl
 | .nili, _, _, _, h => plain_one h.1 rfl
 | .alt u t r, s, cs, F, h => by
  obtain ⟨_, h⟩ := h
  cases s with
  | inl x => obtain ⟨_, h, _⟩ := h; exact plain_one h rfl
  | inr y => exact Rel_plain w B r y cs [] h.1
 | .iter, _, _, _, ⟨_, _, h, _⟩ => plain_one h rfl

theorem Rel_pure (w : World) (B : Nat → Prop) : ∀ (t : Ty) (x : T t) cs F, t.pure = true → Rel w B t x cs F → F = []
 | .int _, _, _, _, _, h => h.2.2
 | .bool, _, _, _, _, h => h.2
 | .str, _, _, _, _, ⟨_, _, _, _, h⟩ => h
 | .unit, _, _, _, _, h => h.2
 | .pair a b, x, _, _, hp, ⟨c1, c2, F1, F2, _, hF, h1, h2⟩ => by
  simp only [Ty.pure, Bool.and_eq_true] at hp
  rw [hF, Rel_pure w B a x.1 c1 F1 hp.1 h1, Rel_pure w B b x.2 c2 F2 hp.2 h2]; rfl
 | .agg a, x, cs, F, hp, h => Rel_pure w B a x cs F hp h
 | .arr n e, xs, cs, F, hp, ⟨_, h⟩ => RelL_F (fun x cs F h => Rel_pure w B e x cs F hp h) xs cs F h
 | .slice _, _, _, _, _, h => h.1
 | .own _, _, _, _, hp, _ => by simp [Ty.pure] at hp
 | .app _, _, _, _, hp, _ => by simp [Ty.pure] at hp
 | .junk, _, _, _, hp, _ => by simp [Ty.pure] at hp
 | .ptr _, _, _, _, _, h => h.1
 | .box _, _, _, _, hp, _ => by simp [Ty.pure] at hp
 | .nils _, _, _, _, _, h => h.2
 | .nilp, _, _, _, _, h => h.2
 | .nili, _, _, _, _, h => h.2
 | .alt _ _ _, _, _, _, _, h => h.1

def Same (w w' : World) (b : Nat) : Prop := w'.heap[b]? = w.heap[b]?

theorem Rows.same {w w' : World} {b o : Nat} {cs : List Value} (h : Rows w b o cs) (hs : Same w w' b) : Rows w' b o cs := by
 intro i v hi
 have := h i v hi
 simp only [World.cell?] at this ⊢
 unfold Same at hs
 rw [hs]; exact this

theorem Blk.same {w w' : World} {b : Nat} {c : Array Value} (h : Blk w b c) (hs : Same w w' b) : Blk w' b c := by
 obtain ⟨ty, fr, h1, h2⟩ := h
 exact ⟨ty, fr, hs.trans h1, h2⟩

theorem SlR.mono {α : Type} {w w' : World} {B B' : Nat → Prop} {sz : Nat} {R R' : α → List Value → List Nat → Prop} {xs : List α} {v : Value} {c : Bool}
  (h : SlR w B sz R xs v c) (hs : ∀ b, B b → Same w w' b) (hB : ∀ b, B b → B' b) (hR : ∀ x cs, R x cs [] → R' x cs []) (hp : ∀ x cs F, R x cs F → F = [] → True) : SlR w' B' sz R' xs v c := by
 obtain ⟨a, cap, cells, hv, h1, h2, h3, h4, h5, h6⟩ := h
 refine ⟨a, cap, cells, hv, h1, h2, h3, h4, ?_, ?_⟩
 ·have key : ∀ (xs : List α) (cs : List Value) F, F = [] → RelL R xs cs F → RelL R' xs cs F := by
   intro xs
   induction xs with
   | nil => intro cs F _ h; exact h
   | cons x xs ih =>
    rintro cs F hF ⟨c1, c2, F1, F2, hc, hF', h1, h2⟩
    have hh : F1 = [] ∧ F2 = [] := List.append_eq_nil_iff.1 (hF'.symm.trans hF)
    obtain ⟨rfl, rfl⟩ := hh
    exact ⟨c1, c2, [], [], hc, hF', hR _ _ h1, ih c2 [] rfl h2⟩
  exact key xs cells [] rfl h5
 ·cases a with
  | none => exact h6
  | some ad => exact h6.imp id fun ⟨s, x, y⟩ => ⟨s, hB _ x, y.same (hs _ x)⟩

theorem RelL_same {α : Type} {R R' : α → List Value → List Nat → Prop} {w w' : World} (h : ∀ x cs F, R x cs F → (∀ b ∈ F, Same w w' b) → R' x cs F) :
  ∀ (xs : List α) cs F, RelL R xs cs F → (∀ b ∈ F, Same w w' b) → RelL R' xs cs F
 | [], _, _, h0, _ => h0
 | _ :: xs, _, _, ⟨c1, c2, F1, F2, hc, hF, h1, h2⟩, hs => by
  subst hF
  exact ⟨c1, c2, F1, F2, hc, rfl, h _ _ _ h1 (fun b hb => hs b (List.mem_append.2 (.inl hb))), RelL_same h xs c2 F2 h2 (fun b hb => hs b (List.mem_append.2 (.inr hb)))⟩

theorem OwR.same {α : Type} {w w' : World} {sz : Nat} {R R' : α → List Value → List Nat → Prop} {xs : List α} {v : Value} {F : List Nat}
  (h : OwR w sz R xs v F) (hR : ∀ x cs F, R x cs F → (∀ b ∈ F, Same w w' b) → R' x cs F) (hs : ∀ b ∈ F, Same w w' b) : OwR w' sz R' xs v F := by
 rcases h with h | ⟨b, cap, c, F', hv, h1, h2, h3, h4, h5, h6⟩
 ·exact .inl h
 ·subst h6
  exact .inr ⟨b, cap, c, F', hv, h1, h2, h3.same (hs b (by simp)), h4, RelL_same hR xs _ F' h5 (fun x hx => hs x (List.mem_cons_of_mem _ hx)), rfl⟩

theorem Rel_same {w w' : World} {B B' : Nat → Prop} (hs : ∀ b, B b → Same w w' b) (hB : ∀ b, B b → B' b) : ∀ (t : Ty) (x : T t) cs F, Rel w B t x cs F → (∀ b ∈ F, Same w w' b) → Rel w' B' t x cs F
 | .int _, _, _, _, h, _ => h
 | .bool, _, _, _, h, _ => h
 | .str, _, _, _, h, _ => h
 | .unit, _, _, _, h, _ => h
 | .pair a b, x, _, _, ⟨c1, c2, F1, F2, hc, hF, h1, h2⟩, hf => by
  subst hF
  exact ⟨c1, c2, F1, F2, hc, rfl, Rel_same hs hB a x.1 c1 F1 h1 (fun b hb => hf b (List.mem_append.2 (.inl hb))), Rel_same hs hB b x.2 c2 F2 h2 (fun b hb => hf b (List.mem_append.2 (.inr hb)))⟩
 | .agg a, x, cs, F, h, hf => Rel_same hs hB a x cs F h hf
 | .arr n e, xs, cs, F, ⟨hn, h⟩, hf => ⟨hn, RelL_same (fun x cs F h hf => Rel_same hs hB e x cs F h hf) xs cs F h hf⟩
 | .slice e, xs, cs, F, ⟨hF, v, hv, h⟩, _ => ⟨hF, v, hv, h.mono hs hB (fun x cs h => Rel_same hs hB e x cs [] h (by simp)) (fun _ _ _ _ _ => trivial)⟩
 | .own e, xs, cs, F, ⟨v, hv, h⟩, hf => ⟨v, hv, h.same (fun x cs F h hf => Rel_same hs hB e x cs F h hf) hf⟩
 | .app e, xs, cs, F, ⟨v, hv, h⟩, hf => ⟨v, hv, h.imp (fun h => h.same (fun x cs F h hf => Rel_same hs hB e x cs F h hf) hf)
   (fun h => ⟨h.1, h.2.mono hs hB (fun x cs h => Rel_same hs hB e x cs [] h (by simp)) (fun _ _ _ _ _ => trivial)⟩)⟩
 | .junk, _, _, _, h, _ => h
 | .ptr t, o, cs, F, h, _ => by
  obtain ⟨hF, h⟩ := h
  refine ⟨hF, ?_⟩
  cases o with
  | none => exact h
  | some x => obtain ⟨b, off, cells, h1, h2, h3, h4⟩ := h; exact ⟨b, off, cells, h1, hB _ h2, h3.same (hs _ h2), Rel_same hs hB t x cells [] h4 (by simp)⟩
 | .box t, o, cs, F, h, hf => by
  cases o with
  | none => exact h
  | some x =>
   obtain ⟨b, c, F', h1, h2, h3, h4⟩ := h
   subst h4
   exact ⟨b, c, F', h1, h2.same (hf b (by simp)), Rel_same hs hB t x _ F' h3 (fun y hy => hf y (List.mem_cons_of_mem _ hy)), rfl⟩
 | .nils _, _, _, _, h, _ => h
 | .nilp, _, _, _, h, _ => h
 | .nili, _, _, _, h, _ => h
 | .alt u t r, s, cs, F, h, _ => by
  obtain ⟨hF, h⟩ := h
  refine ⟨hF, ?_⟩
  cases s with
  | inl x => obtain ⟨v, h1, h2, h3⟩ := h; exact ⟨v, h1, Rel_same hs hB t x _ [] h2 (by simp), h3⟩
  | inr y => exact ⟨Rel_same hs hB r y cs [] h.1 (by simp), h.2⟩
 | .iter, _, _, _, h, hf => by
  obtain ⟨b, s, h1, h2, h3, h4⟩ := h
  exact ⟨b, s, h1, h2, (hf b (by rw [h2]; simp)).trans h3, h4⟩

theorem VR.same {w w' : World} {B B' : Nat → Prop} {t : Ty} {x : T t} {v : Value} {F : List Nat} (h : VR w B t x v F) (hs : ∀ b, B b → Same w w' b) (hB : ∀ b, B b → B' b) (hf : ∀ b ∈ F, Same w w' b) : VR w' B' t x v F :=
 ⟨Rel_same hs hB t x _ F h.1 hf, h.2⟩

theorem RelL_nil {α : Type} {R : α → List Value → List Nat → Prop} (hp : ∀ x cs F, R x cs F → F = []) {xs : List α} {cs : List Value} {F : List Nat} (h : RelL R xs cs F) : RelL R xs cs [] := by
 have := RelL_F hp xs cs F h
 subst this; exact h

theorem take_getElem? {α : Type} {l : List α} {n i : Nat} {x : α} (h : (l.take n)[i]? = some x) : l[i]? = some x := by
 rw [List.getElem?_take] at h
 split at h
 ·exact h
 ·cases h

theorem cell_of_heap {w : World} {b : Nat} {c : Array Value} {ty : TypeId} {fr : Nat × Nat} (h : w.heap[b]? = some (.cells c ty fr)) (i : Nat) : w.cell? ⟨b, i, none⟩ = c[i]? := by
 simp [World.cell?, h]

theorem Blk.cell {w : World} {b : Nat} {c : Array Value} (h : Blk w b c) (i : Nat) : w.cell? ⟨b, i, none⟩ = c[i]? := by
 obtain ⟨ty, fr, h, _⟩ := h
 exact cell_of_heap h i

theorem Blk.lt {w : World} {b : Nat} {c : Array Value} (h : Blk w b c) : b < w.heap.size := by
 obtain ⟨ty, fr, h, _⟩ := h
 rcases Nat.lt_or_ge b w.heap.size with h1 | h1
 ·exact h1
 ·simp [Array.getElem?_eq_none h1] at h

theorem Rows_of_heap {w : World} {b : Nat} {c : Array Value} (h : Blk w b c) {cs : List Value} (hc : ∀ (i : Nat) (v : Value), cs[i]? = some v → c[i]? = some v) : Rows w b 0 cs := by
 intro i v hi
 rw [Nat.zero_add, h.cell]
 exact hc i v hi

theorem OwR_slice {α : Type} {w : World} {B : Nat → Prop} {sz : Nat} {R R' : α → List Value → List Nat → Prop} {xs : List α} {v : Value} {F : List Nat}
  (h : OwR w sz R xs v F) (hp : ∀ x cs F, R x cs F → F = []) (hR : ∀ x cs, R x cs [] → R' x cs []) (hn : ∀ x cs F, R x cs F → cs.length = sz) : SlR w (fun b => B b ∨ b ∈ F) sz R' xs v false := by
 rcases h with ⟨h1, h2, h3⟩ | ⟨b, cap, c, F', hv, h1, h2, h3, h4, h5, h6⟩
 ·subst h1; subst h2
  exact ⟨none, 0, [], rfl, by simp, by simp [maxLen], by simp, by simp, ⟨rfl, rfl⟩, rfl⟩
 ·have h5' := RelL_nil hp h5
  have key : ∀ (xs : List α) (cs : List Value), RelL R xs cs [] → RelL R' xs cs [] := by
   intro xs
   induction xs with
   | nil => intro cs h; exact h
   | cons x xs ih =>
    rintro cs ⟨c1, c2, F1, F2, hc, hF', g1, g2⟩
    obtain ⟨rfl, rfl⟩ := List.append_eq_nil_iff.1 hF'.symm
    exact ⟨c1, c2, [], [], hc, rfl, hR _ _ g1, ih c2 g2⟩
  refine ⟨some ⟨b, 0, none⟩, cap, _, hv, h1, h2, by simp, RelL_length hn _ _ _ h5', key _ _ h5', .inr ⟨rfl, .inr (by simp [h6]), ?_⟩⟩
  exact Rows_of_heap h3 fun i v hi => by have := take_getElem? hi; simpa using this

theorem Rel_frz {w : World} {B : Nat → Prop} : ∀ (t : Ty) (x : T t) cs F, (frz t).pure = true → Rel w B t x cs F → Rel w (fun b => B b ∨ b ∈ F) (frz t) (frzV t x) cs []
 | .int _, _, _, _, _, h => ⟨h.1, h.2.1, rfl⟩
 | .bool, _, _, _, _, h => ⟨h.1, rfl⟩
 | .str, _, _, _, _, ⟨b, h1, h2, h3, _⟩ => ⟨b, h1, h2, h3, rfl⟩
 | .unit, _, _, _, _, h => ⟨h.1, rfl⟩
 | .pair a b, x, _, _, hp, ⟨c1, c2, F1, F2, hc, hF, h1, h2⟩ => by
  simp only [frz, Ty.pure, Bool.and_eq_true] at hp
  subst hF
  refine ⟨c1, c2, [], [], hc, rfl, ?_, ?_⟩
  ·exact Rel_same (fun _ _ => rfl) (fun b hb => hb.imp id fun h => List.mem_append.2 (.inl h)) _ _ _ _ (Rel_frz a x.1 c1 F1 hp.1 h1) (by simp)
  ·exact Rel_same (fun _ _ => rfl) (fun b hb => hb.imp id fun h => List.mem_append.2 (.inr h)) _ _ _ _ (Rel_frz b x.2 c2 F2 hp.2 h2) (by simp)
 | .agg a, x, cs, F, hp, h => Rel_frz a x cs F hp h
 | .arr n e, xs, cs, F, hp, h => by
  have := Rel_pure w B (.arr n e) xs cs F hp h
  subst this
  exact Rel_same (t := .arr n e) (fun _ _ => rfl) (fun _ h => .inl h) _ _ _ h (by simp)
 | .slice e, xs, cs, F, hp, h => by
  have := Rel_pure w B (.slice e) xs cs F hp h
  subst this
  exact Rel_same (t := .slice e) (fun _ _ => rfl) (fun _ h => .inl h) _ _ _ h (by simp)
 | .own e, xs, cs, F, hp, ⟨v, hv, h⟩ => ⟨rfl, v, hv, OwR_slice h (fun x cs F h => Rel_pure w B e x cs F hp h) (fun x cs h => Rel_same (fun _ _ => rfl) (fun _ h => .inl h) e x cs [] h (by simp)) (fun x cs F h => Rel_length w B e x cs F h)⟩
 | .app e, xs, cs, F, hp, ⟨v, hv, h⟩ => by
  refine ⟨rfl, v, hv, ?_⟩
  rcases h with h | ⟨hF, h⟩
  ·exact OwR_slice h (fun x cs F h => Rel_pure w B e x cs F hp h) (fun x cs h => Rel_same (fun _ _ => rfl) (fun _ h => .inl h) e x cs [] h (by simp)) (fun x cs F h => Rel_length w B e x cs F h)
  ·obtain ⟨a, cap, cells, h1, h2, h3, h4, h5, h6, h7⟩ := h.mono (w' := w) (B' := fun b => B b ∨ b ∈ F) (R' := Rel w (fun b => B b ∨ b ∈ F) e) (fun _ _ => rfl) (fun _ h => .inl h) (fun x cs h => Rel_same (fun _ _ => rfl) (fun _ h => .inl h) e x cs [] h (by simp)) (fun _ _ _ _ _ => trivial)
   exact ⟨a, cap, cells, h1, h2, h3, by simp, h5, h6, h7⟩
 | .junk, _, _, _, hp, _ => by simp [frz, Ty.pure] at hp
 | .ptr t, o, cs, F, hp, h => by
  have := Rel_pure w B (.ptr t) o cs F hp h
  subst this
  exact Rel_same (t := .ptr t) (fun _ _ => rfl) (fun _ h => .inl h) _ _ _ h (by simp)
 | .box t, o, cs, F, hp, h => by
  refine ⟨rfl, ?_⟩
  cases o with
  | none => exact h.1
  | some x =>
   obtain ⟨b, c, F', h1, h2, h3, h4⟩ := h
   have := Rel_pure w B t x _ F' hp h3
   subst this; subst h4
   exact ⟨b, 0, c.toList, h1, .inr (by simp), Rows_of_heap h2 (fun i v hi => by simpa using hi), Rel_same (fun _ _ => rfl) (fun _ h => .inl h) t x _ [] h3 (by simp)⟩
 | .nils _, _, _, _, _, h => ⟨h.1, rfl⟩
 | .nilp, _, _, _, _, h => ⟨h.1, rfl⟩
 | .nili, _, _, _, _, h => ⟨h.1, rfl⟩
 | .alt u t r, s, cs, F, hp, h => by
  have := Rel_pure w B (.alt u t r) s cs F hp h
  subst this
  exact Rel_same (t := .alt u t r) (fun _ _ => rfl) (fun _ h => .inl h) _ _ _ h (by simp)

theorem inj_rel {w : World} {B : Nat → Prop} {u : Nat} {t : Ty} {x : T t} {v : Value} (h : Rel w B t x v.cells.toList []) (ha : Value.agg? v = t.isAgg) : ∀ (b : Ty) (f : T t → T b), inj u t b = some f → Rel w B b (f x) [.iface u v] []
 | .alt u' t' r, f, hf => by
  unfold inj at hf
  split at hf
  ·rename_i hu
   split at hf
   ·rename_i ht
    subst ht; subst hu
    obtain rfl := Option.some.inj hf
    exact ⟨rfl, v, rfl, h, ha⟩
   ·cases hf
  ·cases hg : inj u t r with
   | none => rw [hg] at hf; cases hf
   | some g =>
    rw [hg] at hf
    obtain rfl := Option.some.inj hf
    exact ⟨rfl, inj_rel h ha r g hg, rfl⟩
 | .int _, _, hf => by simp [inj] at hf
 | .bool, _, hf => by simp [inj] at hf
 | .str, _, hf => by simp [inj] at hf
 | .unit, _, hf => by simp [inj] at hf
 | .pair _ _, _, hf => by simp [inj] at hf
 | .agg _, _, hf => by simp [inj] at hf
 | .arr _ _, _, hf => by simp [inj] at hf
 | .slice _, _, hf => by simp [inj] at hf
 | .own _, _, hf => by simp [inj] at hf
 | .app _, _, hf => by simp [inj] at hf
 | .junk, _, hf => by simp [inj] at hf
 | .ptr _, _, hf => by simp [inj] at hf
 | .box _, _, hf => by simp [inj] at hf
 | .nils _, _, hf => by simp [inj] at hf
 | .nilp, _, hf => by simp [inj] at hf
 | .nili, _, hf => by simp [inj] at hf

theorem toNil_rel {w : World} {B : Nat → Prop} : ∀ (b : Ty) (y : T b), toNil b = some y → Rel w B b y [.nilIface] []
 | .nili, _, _ => ⟨rfl, rfl⟩
 | .alt _ _ r, y, h => by
  cases hr : toNil r with
  | none => simp [toNil, hr] at h
  | some z =>
   simp only [toNil, hr, Option.map_some, Option.some.injEq] at h
   subst h
   exact ⟨rfl, toNil_rel r z hr, rfl⟩
 | .int _, _, hf => by simp [toNil] at hf
 | .bool, _, hf => by simp [toNil] at hf
 | .str, _, hf => by simp [toNil] at hf
 | .unit, _, hf => by simp [toNil] at hf
 | .pair _ _, _, hf => by simp [toNil] at hf
 | .agg _, _, hf => by simp [toNil] at hf
 | .arr _ _, _, hf => by simp [toNil] at hf
 | .slice _, _, hf => by simp [toNil] at hf
 | .own _, _, hf => by simp [toNil] at hf
 | .app _, _, hf => by simp [toNil] at hf
 | .junk, _, hf => by simp [toNil] at hf
 | .ptr _, _, hf => by simp [toNil] at hf
 | .box _, _, hf => by simp [toNil] at hf
 | .nils _, _, hf => by simp [toNil] at hf
 | .nilp, _, hf => by simp [toNil] at hf

theorem cvAlt_rel {w : World} {B : Nat → Prop} : ∀ (a b : Ty) (f : T a → T b), cvAlt a b = some f → ∀ (x : T a) cs F, Rel w B a x cs F → Rel w B b (f x) cs F
 | .nili, b, f, hf, x, cs, F, h => by
  cases hb : toNil b with
  | none => simp [cvAlt, hb] at hf
  | some y =>
   simp only [cvAlt, hb, Option.map_some, Option.some.injEq] at hf
   subst hf
   obtain ⟨rfl, rfl⟩ := h
   exact toNil_rel b y hb
 | .alt u t r, b, f, hf, x, cs, F, h => by
  cases hi : inj u t b with
  | none => simp [cvAlt, hi] at hf
  | some g =>
   cases hr : cvAlt r b with
   | none => simp [cvAlt, hi, hr] at hf
   | some k =>
    simp only [cvAlt, hi, hr, Option.bind_some, Option.map_some, Option.some.injEq] at hf
    subst hf
    obtain ⟨rfl, h⟩ := h
    cases x with
    | inl y => obtain ⟨v, rfl, h1, h2⟩ := h; exact inj_rel h1 h2 b g hi
    | inr y => exact cvAlt_rel r b k hr y cs [] h.1
 | .int _, _, _, hf, _, _, _, _ => by simp [cvAlt] at hf
 | .bool, _, _, hf, _, _, _, _ => by simp [cvAlt] at hf
 | .str, _, _, hf, _, _, _, _ => by simp [cvAlt] at hf
 | .unit, _, _, hf, _, _, _, _ => by simp [cvAlt] at hf
 | .pair _ _, _, _, hf, _, _, _, _ => by simp [cvAlt] at hf
 | .agg _, _, _, hf, _, _, _, _ => by simp [cvAlt] at hf
 | .arr _ _, _, _, hf, _, _, _, _ => by simp [cvAlt] at hf
 | .slice _, _, _, hf, _, _, _, _ => by simp [cvAlt] at hf
 | .own _, _, _, hf, _, _, _, _ => by simp [cvAlt] at hf
 | .app _, _, _, hf, _, _, _, _ => by simp [cvAlt] at hf
 | .junk, _, _, hf, _, _, _, _ => by simp [cvAlt] at hf
 | .ptr _, _, _, hf, _, _, _, _ => by simp [cvAlt] at hf
 | .box _, _, _, hf, _, _, _, _ => by simp [cvAlt] at hf
 | .nils _, _, _, hf, _, _, _, _ => by simp [cvAlt] at hf
 | .nilp, _, _, hf, _, _, _, _ => by simp [cvAlt] at hf

theorem cvC_rel {w : World} {B : Nat → Prop} (a b : Ty) (f : T a → T b) (hf : cvC a b = some f) (x : T a) (cs : List Value) (F : List Nat) (h : Rel w B a x cs F) : Rel w B b (f x) cs F := by
 cases a <;> cases b <;> first | (simp only [cvC] at hf; cases hf; done) | skip
 case nils.slice e e' =>
  simp only [cvC] at hf
  obtain rfl := Option.some.inj hf
  obtain ⟨rfl, rfl⟩ := h
  exact ⟨rfl, _, rfl, none, 0, [], rfl, by simp, by simp [maxLen], by simp, by simp, ⟨rfl, rfl⟩, rfl⟩
 case nils.own e e' =>
  simp only [cvC] at hf
  obtain rfl := Option.some.inj hf
  obtain ⟨rfl, rfl⟩ := h
  exact ⟨_, rfl, .inl ⟨rfl, rfl, rfl⟩⟩
 case nils.app e e' =>
  simp only [cvC] at hf
  obtain rfl := Option.some.inj hf
  obtain ⟨rfl, rfl⟩ := h
  exact ⟨_, rfl, .inl (.inl ⟨rfl, rfl, rfl⟩)⟩
 case own.app e e' =>
  simp only [cvC] at hf
  split at hf
  ·rename_i he; subst he; obtain rfl := Option.some.inj hf
   obtain ⟨v, hv, h⟩ := h
   exact ⟨v, hv, .inl h⟩
  ·cases hf
 case nilp.ptr t =>
  obtain rfl := Option.some.inj hf
  exact ⟨h.2, h.1⟩
 case nilp.box t =>
  obtain rfl := Option.some.inj hf
  exact ⟨h.1, h.2⟩
 case nili.alt u t r => exact cvAlt_rel _ _ f hf x cs F h
 case alt.alt u t r u' t' r' => exact cvAlt_rel _ _ f hf x cs F h

theorem cvB_rel {w : World} {B : Nat → Prop} (a b : Ty) (f : T a → T b) (hf : cvB a b = some f) (x : T a) (cs : List Value) (F : List Nat) (h : Rel w B a x cs F) : Rel w B b (f x) cs F := by
 unfold cvB at hf
 split at hf
 ·rename_i e; subst e; obtain rfl := Option.some.inj hf; exact h
 ·exact cvC_rel a b f hf x cs F h

theorem cv_rel {w : World} {B : Nat → Prop} : ∀ (a b : Ty) (f : T a → T b), cv a b = some f → ∀ (x : T a) cs F, Rel w B a x cs F → Rel w B b (f x) cs F := by
 intro a
 induction a with
 | pair a1 a2 ih1 ih2 =>
  intro b f hf x cs F h
  cases b with
  | pair b1 b2 =>
   simp only [cv] at hf
   cases h1 : cv a1 b1 with
   | none => rw [h1] at hf; cases hf
   | some g1 =>
    cases h2 : cv a2 b2 with
    | none => rw [h1, h2] at hf; cases hf
    | some g2 =>
     rw [h1, h2] at hf
     obtain rfl := Option.some.inj hf
     obtain ⟨c1, c2, F1, F2, hc, hF, k1, k2⟩ := h
     exact ⟨c1, c2, F1, F2, hc, hF, ih1 _ _ h1 _ _ _ k1, ih2 _ _ h2 _ _ _ k2⟩
  | _ => exact cvB_rel _ _ f (by simpa only [cv] using hf) x cs F h
 | agg a ih =>
  intro b f hf x cs F h
  cases b with
  | agg b => exact ih b f (by simpa only [cv] using hf) x cs F h
  | _ => exact cvB_rel _ _ f (by simpa only [cv] using hf) x cs F h
 | _ => intro b f hf x cs F h; exact cvB_rel _ _ f (by simpa only [cv] using hf) x cs F h

theorem cv_agg : ∀ (a b : Ty) (f : T a → T b), cv a b = some f → a.isAgg = b.isAgg := by
 intro a b f hf
 have key : ∀ a b (f : T a → T b), cvB a b = some f → a.isAgg = b.isAgg := by
  intro a b f hf
  unfold cvB at hf
  split at hf
  ·rename_i e; rw [e]
  ·cases a <;> cases b <;> first | rfl | (simp only [cvC] at hf; cases hf; done)
 cases a <;> cases b <;> first | rfl | exact key _ _ f (by simpa only [cv] using hf)

theorem getF_rel {w : World} {B : Nat → Prop} : ∀ (t : Ty) (x : T t) (i : Nat) (y : ODyn) (v : T y.ty) cs F, getF t (some x) i = some y → y.val = some v → Rel w B t x cs F →
  ∃ o pre mid post F1 F2 F3, offF t i = some (o, y.ty) ∧ cs = pre ++ mid ++ post ∧ pre.length = o ∧ F = F1 ++ F2 ++ F3 ∧ Rel w B y.ty v mid F2 ∧
   ∀ (w' : World) (B' : Nat → Prop), (∀ b, B b → Same w w' b) → (∀ b, B b → B' b) → (∀ b ∈ F1 ++ F3, Same w w' b) →
   ∀ (u : Ty) (z : T u) mid' F2' (r : ODyn) (k : T r.ty), Rel w' B' u z mid' F2' → setF t (some x) i ⟨u, some z⟩ = some r → r.val = some k → Rel w' B' r.ty k (pre ++ mid' ++ post) (F1 ++ F2' ++ F3)
 | .pair a b, x, 0, y, v, cs, F, hg, hv, h => by
  simp only [getF, Option.some.injEq] at hg
  subst hg
  simp only [Option.map_some, Option.some.injEq] at hv
  subst hv
  obtain ⟨c1, c2, F1, F2, rfl, rfl, h1, h2⟩ := h
  refine ⟨0, [], c1, c2, [], F1, F2, rfl, by simp, rfl, by simp, h1, fun w' B' hws hwB hwF u z mid' F2' r k hz hs hk => ?_⟩
  simp only [setF, Option.some.injEq] at hs
  subst hs
  simp only [Option.bind_some, Option.map_some, Option.some.injEq] at hk
  subst hk
  exact ⟨mid', c2, F2', F2, by simp, by simp, hz, Rel_same hws hwB _ _ _ _ h2 (by simpa using hwF)⟩
 | .pair a b, x, i + 1, y, v, cs, F, hg, hv, h => by
  simp only [getF, Option.map_some] at hg
  obtain ⟨c1, c2, F1, F2, rfl, rfl, h1, h2⟩ := h
  obtain ⟨o, pre, mid, post, G1, G2, G3, ho, rfl, hl, rfl, hm, hset⟩ := getF_rel b x.2 i y v c2 F2 hg hv h2
  refine ⟨a.size + o, c1 ++ pre, mid, post, F1 ++ G1, G2, G3, by simp [offF, ho], by simp, ?_, by simp, hm, fun w' B' hws hwB hwF u z mid' F2' r k hz hs hk => ?_⟩
  ·rw [List.length_append, Rel_length w B a _ _ _ h1, hl]
  ·simp only [setF, Option.map_some] at hs
   cases hb : setF b (some x.2) i ⟨u, some z⟩ with
   | none => rw [hb] at hs; cases hs
   | some r' =>
    rw [hb] at hs
    simp only [Option.map_some, Option.some.injEq] at hs
    subst hs
    simp only [Option.bind_some] at hk
    cases hr : r'.val with
    | none => rw [hr] at hk; cases hk
    | some k' =>
     rw [hr] at hk
     simp only [Option.map_some, Option.some.injEq] at hk
     subst hk
     exact ⟨c1, pre ++ mid' ++ post, F1, G1 ++ F2' ++ G3, by simp, by simp, Rel_same hws hwB _ _ _ _ h1 (fun b hb => hwF b (by simp [hb])),
      hset w' B' hws hwB (fun b hb => hwF b (by rcases List.mem_append.1 hb with hb | hb <;> simp [hb])) u z mid' F2' r' k' hz hb hr⟩
 | .int _, _, _, _, _, _, _, hg, _, _ => by simp [getF] at hg
 | .bool, _, _, _, _, _, _, hg, _, _ => by simp [getF] at hg
 | .str, _, _, _, _, _, _, hg, _, _ => by simp [getF] at hg
 | .unit, _, _, _, _, _, _, hg, _, _ => by simp [getF] at hg
 | .agg _, _, _, _, _, _, _, hg, _, _ => by simp [getF] at hg
 | .arr _ _, _, _, _, _, _, _, hg, _, _ => by simp [getF] at hg
 | .slice _, _, _, _, _, _, _, hg, _, _ => by simp [getF] at hg
 | .own _, _, _, _, _, _, _, hg, _, _ => by simp [getF] at hg
 | .app _, _, _, _, _, _, _, hg, _, _ => by simp [getF] at hg
 | .junk, _, _, _, _, _, _, hg, _, _ => by simp [getF] at hg
 | .ptr _, _, _, _, _, _, _, hg, _, _ => by simp [getF] at hg
 | .box _, _, _, _, _, _, _, hg, _, _ => by simp [getF] at hg
 | .nils _, _, _, _, _, _, _, hg, _, _ => by simp [getF] at hg
 | .nilp, _, _, _, _, _, _, hg, _, _ => by simp [getF] at hg
 | .nili, _, _, _, _, _, _, hg, _, _ => by simp [getF] at hg
 | .alt _ _ _, _, _, _, _, _, _, hg, _, _ => by simp [getF] at hg

theorem rdI_some {α : Type} {xs : List α} {i : Int} {v : α} (h : rdI xs i = some v) : 0 ≤ i ∧ xs[i.toNat]? = some v := by
 unfold rdI at h
 split at h
 ·exact ⟨by assumption, h⟩
 ·cases h

theorem stI_some {α : Type} {xs ys : List α} {i : Int} {v : α} (h : stI xs i v = some ys) : 0 ≤ i ∧ i.toNat < xs.length ∧ ys = xs.set i.toNat v := by
 unfold stI at h
 split at h
 ·rename_i hc; exact ⟨hc.1, hc.2, (Option.some.inj h).symm⟩
 ·cases h

theorem getS_rel {w : World} {B : Nat → Prop} (t : Ty) (x : T t) (s : PS) (y : ODyn) (v : T y.ty) (cs : List Value) (F : List Nat) (hg : getS ⟨t, some x⟩ s = some y) (hv : y.val = some v) (h : Rel w B t x cs F) :
  ∃ o pre mid post F1 F2 F3, offS t s = some (o, y.ty) ∧ cs = pre ++ mid ++ post ∧ pre.length = o ∧ F = F1 ++ F2 ++ F3 ∧ Rel w B y.ty v mid F2 ∧
   ∀ (w' : World) (B' : Nat → Prop), (∀ b, B b → Same w w' b) → (∀ b, B b → B' b) → (∀ b ∈ F1 ++ F3, Same w w' b) →
   ∀ (u : Ty) (z : T u) mid' F2' (r : ODyn) (k : T r.ty), Rel w' B' u z mid' F2' → setS ⟨t, some x⟩ s ⟨u, some z⟩ = some r → r.val = some k → Rel w' B' r.ty k (pre ++ mid' ++ post) (F1 ++ F2' ++ F3) := by
 cases t with
 | agg t =>
  cases s with
  | fld i =>
   have hg : getF t (some x) i = some y := by cases t <;> exact hg
   obtain ⟨o, pre, mid, post, G1, G2, G3, ho, hc, hl, hF, hm, hset⟩ := getF_rel t x i y v cs F hg hv h
   refine ⟨o, pre, mid, post, G1, G2, G3, ?_, hc, hl, hF, hm, fun w' B' hws hwB hwF u z mid' F2' r k hz hs hk => ?_⟩
   ·cases t <;> exact ho
   ·have hs : (setF t (some x) i ⟨u, some z⟩).map (fun z => (⟨.agg z.ty, z.val⟩ : ODyn)) = some r := by cases t <;> exact hs
    cases hb : setF t (some x) i ⟨u, some z⟩ with
    | none => rw [hb] at hs; cases hs
    | some r' =>
     rw [hb] at hs
     simp only [Option.map_some, Option.some.injEq] at hs
     subst hs
     exact hset w' B' hws hwB hwF u z mid' F2' r' k hz hb hk
  | idx i =>
   cases t with
   | arr n e =>
    simp only [getS, Option.bind_some, Option.some.injEq] at hg
    subst hg
    obtain ⟨h0, hi⟩ := rdI_some hv
    obtain ⟨hn, h⟩ := h
    obtain ⟨c1, c2, c3, F1, F2, F3, hc, hF, hl, h2, hset⟩ := RelL_split (fun x cs F h => Rel_length w B e x cs F h) _ cs F i.toNat v h hi
    refine ⟨_, c1, c2, c3, F1, F2, F3, rfl, hc, hl, hF, h2, fun w' B' hws hwB hwF u z mid' F2' r k hz hs hk => ?_⟩
    simp only [setS] at hs
    split at hs
    ·rename_i hu
     have hu : u = e := hu
     subst hu
     simp only [Option.some.injEq] at hs
     subst hs
     simp only [Option.bind_some] at hk
     obtain ⟨_, _, rfl⟩ := stI_some hk
     exact ⟨by simpa using hn, hset _ z mid' F2' (fun x cs F h hb => Rel_same hws hwB _ _ _ _ h (fun b hb' => hwF b (hb b hb'))) hz⟩
    ·cases hs
   | _ => simp [getS] at hg
 | _ => cases s <;> simp [getS] at hg

theorem getF_none : ∀ (t : Ty) (i : Nat) (y : ODyn), getF t none i = some y → y.val = none
 | .pair a _, 0, y, h => by simp only [getF, Option.some.injEq] at h; subst h; rfl
 | .pair _ b, i + 1, y, h => getF_none b i y (by simpa only [getF, Option.map_none] using h)
 | .int _, _, _, h => by simp [getF] at h
 | .bool, _, _, h => by simp [getF] at h
 | .str, _, _, h => by simp [getF] at h
 | .unit, _, _, h => by simp [getF] at h
 | .agg _, _, _, h => by simp [getF] at h
 | .arr _ _, _, _, h => by simp [getF] at h
 | .slice _, _, _, h => by simp [getF] at h
 | .own _, _, _, h => by simp [getF] at h
 | .app _, _, _, h => by simp [getF] at h
 | .junk, _, _, h => by simp [getF] at h
 | .ptr _, _, _, h => by simp [getF] at h
 | .box _, _, _, h => by simp [getF] at h
 | .nils _, _, _, h => by simp [getF] at h
 | .nilp, _, _, h => by simp [getF] at h
 | .nili, _, _, h => by simp [getF] at h
 | .alt _ _ _, _, _, h => by simp [getF] at h

theorem getS_none (t : Ty) (s : PS) (y : ODyn) (h : getS ⟨t, none⟩ s = some y) : y.val = none := by
 cases t with
 | agg t =>
  cases s with
  | fld i => exact getF_none t i y (by cases t <;> exact h)
  | idx i =>
   cases t with
   | arr n e => simp only [getS, Option.some.injEq] at h; subst h; rfl
   | _ => simp [getS] at h
 | _ => cases s <;> simp [getS] at h

theorem getP_none : ∀ (p : Path) (t : Ty) (y : ODyn), getP ⟨t, none⟩ p = some y → y.val = none
 | [], t, y, h => by simp only [getP, Option.some.injEq] at h; subst h; rfl
 | s :: p, t, y, h => by
  simp only [getP] at h
  cases hs : getS ⟨t, none⟩ s with
  | none => rw [hs] at h; cases h
  | some z =>
   rw [hs] at h
   have hz := getS_none t s z hs
   obtain ⟨u, v⟩ := z
   have hz : v = none := hz
   subst hz
   exact getP_none p u y (by simpa using h)

theorem setF_none : ∀ (t : Ty) (x : Option (T t)) (i : Nat) (u : Ty) (r : ODyn), setF t x i ⟨u, none⟩ = some r → r.val = none
 | .pair a _, x, 0, u, r, h => by simp only [setF, Option.some.injEq] at h; subst h; cases x <;> rfl
 | .pair a b, x, i + 1, u, r, h => by
  simp only [setF] at h
  cases hb : setF b (x.map (·.2)) i ⟨u, none⟩ with
  | none => rw [hb] at h; cases h
  | some z =>
   rw [hb] at h
   simp only [Option.map_some, Option.some.injEq] at h
   subst h
   have := setF_none b _ i u z hb
   rw [this]
   cases x <;> rfl
 | .int _, _, _, _, _, h => by simp [setF] at h
 | .bool, _, _, _, _, h => by simp [setF] at h
 | .str, _, _, _, _, h => by simp [setF] at h
 | .unit, _, _, _, _, h => by simp [setF] at h
 | .agg _, _, _, _, _, h => by simp [setF] at h
 | .arr _ _, _, _, _, _, h => by simp [setF] at h
 | .slice _, _, _, _, _, h => by simp [setF] at h
 | .own _, _, _, _, _, h => by simp [setF] at h
 | .app _, _, _, _, _, h => by simp [setF] at h
 | .junk, _, _, _, _, h => by simp [setF] at h
 | .ptr _, _, _, _, _, h => by simp [setF] at h
 | .box _, _, _, _, _, h => by simp [setF] at h
 | .nils _, _, _, _, _, h => by simp [setF] at h
 | .nilp, _, _, _, _, h => by simp [setF] at h
 | .nili, _, _, _, _, h => by simp [setF] at h
 | .alt _ _ _, _, _, _, _, h => by simp [setF] at h

theorem setS_none (t : Ty) (x : Option (T t)) (s : PS) (u : Ty) (r : ODyn) (h : setS ⟨t, x⟩ s ⟨u, none⟩ = some r) : r.val = none := by
 cases t with
 | agg t =>
  cases s with
  | fld i =>
   have hs : (setF t x i ⟨u, none⟩).map (fun z => (⟨.agg z.ty, z.val⟩ : ODyn)) = some r := by cases t <;> exact h
   cases hb : setF t x i ⟨u, none⟩ with
   | none => rw [hb] at hs; cases hs
   | some z =>
    rw [hb] at hs
    simp only [Option.map_some, Option.some.injEq] at hs
    subst hs
    exact setF_none t x i u z hb
  | idx i =>
   cases t with
   | arr n e =>
    simp only [setS] at h
    split at h
    ·rename_i hu
     have hu : u = e := hu
     subst hu
     simp only [Option.some.injEq] at h
     subst h
     cases x <;> rfl
    ·cases h
   | _ => simp [setS] at h
 | _ => cases s <;> simp [setS] at h

theorem getP_rel {w : World} {B : Nat → Prop} : ∀ (p : Path) (t : Ty) (x : T t) (y : ODyn) (v : T y.ty) (cs : List Value) (F : List Nat), getP ⟨t, some x⟩ p = some y → y.val = some v → Rel w B t x cs F →
  ∃ o pre mid post F1 F2 F3, offP t p = some (o, y.ty) ∧ cs = pre ++ mid ++ post ∧ pre.length = o ∧ F = F1 ++ F2 ++ F3 ∧ Rel w B y.ty v mid F2 ∧
   ∀ (w' : World) (B' : Nat → Prop), (∀ b, B b → Same w w' b) → (∀ b, B b → B' b) → (∀ b ∈ F1 ++ F3, Same w w' b) →
   ∀ (u : Ty) (z : T u) mid' F2' (r : ODyn) (k : T r.ty), Rel w' B' u z mid' F2' → setP ⟨t, some x⟩ p ⟨u, some z⟩ = some r → r.val = some k → Rel w' B' r.ty k (pre ++ mid' ++ post) (F1 ++ F2' ++ F3)
 | [], t, x, y, v, cs, F, hg, hv, h => by
  simp only [getP, Option.some.injEq] at hg
  subst hg
  obtain rfl := Option.some.inj hv
  refine ⟨0, [], cs, [], [], F, [], rfl, by simp, rfl, by simp, h, fun w' B' hws hwB hwF u z mid' F2' r k hz hs hk => ?_⟩
  simp only [setP, Option.some.injEq] at hs
  subst hs
  obtain rfl := Option.some.inj hk
  simpa using hz
 | s :: p, t, x, y, v, cs, F, hg, hv, h => by
  simp only [getP] at hg
  cases hs : getS ⟨t, some x⟩ s with
  | none => rw [hs] at hg; cases hg
  | some y1 =>
   rw [hs] at hg
   simp only [Option.bind_some] at hg
   obtain ⟨t1, v1⟩ := y1
   cases v1 with
   | none =>
    rw [getP_none p t1 y hg] at hv
    cases hv
   | some v1 =>
    obtain ⟨o, pre, mid, post, F1, F2, F3, ho, rfl, hl, rfl, hm, hset⟩ := getS_rel t x s ⟨t1, some v1⟩ v1 cs F hs rfl h
    obtain ⟨o', pre', mid', post', F1', F2', F3', ho', rfl, hl', rfl, hm', hset'⟩ := getP_rel p t1 v1 y v mid F2 hg hv hm
    refine ⟨o + o', pre ++ pre', mid', post' ++ post, F1 ++ F1', F2', F3' ++ F3, by simp [offP, ho, ho'], by simp, by simp [hl, hl'], by simp, hm', fun w' B' hws hwB hwF u z md Fd r k hz hs2 hk => ?_⟩
    simp only [setP, hs, Option.bind_some] at hs2
    cases hb : setP ⟨t1, some v1⟩ p ⟨u, some z⟩ with
    | none => rw [hb] at hs2; cases hs2
    | some r1 =>
     rw [hb] at hs2
     simp only [Option.bind_some] at hs2
     obtain ⟨tr, vr⟩ := r1
     cases vr with
     | none => rw [setS_none t (some x) s tr r hs2] at hk; cases hk
     | some vr =>
      have := hset w' B' hws hwB (fun b hb => hwF b (by rcases List.mem_append.1 hb with hb | hb <;> simp [hb])) tr vr _ _ r k
       (hset' w' B' hws hwB (fun b hb => hwF b (by rcases List.mem_append.1 hb with hb | hb <;> simp [hb])) u z md Fd ⟨tr, some vr⟩ vr hz hb rfl) hs2 hk
      simpa using this

theorem sk_size : ∀ t : Ty, (sk t).size = t.size
 | .pair a b => by simp [sk, Ty.size, sk_size a, sk_size b]
 | .agg a => sk_size a
 | .arr n e => by simp [sk, Ty.size, sk_size e]
 | .int _ | .bool | .str | .unit | .slice _ | .own _ | .app _ | .junk | .ptr _ | .box _ | .nils _ | .nilp | .nili | .alt _ _ _ | .iter => rfl

theorem sk_agg (t : Ty) : (sk t).isAgg = t.isAgg := by cases t <;> rfl

theorem size_of_sk {t u : Ty} (h : sk t = sk u) : t.size = u.size := by rw [← sk_size t, ← sk_size u, h]
theorem agg_of_sk {t u : Ty} (h : sk t = sk u) : t.isAgg = u.isAgg := by rw [← sk_agg t, ← sk_agg u, h]

theorem offF_sk : ∀ (t : Ty) (i o : Nat) (u : Ty), offF t i = some (o, u) → offF (sk t) i = some (o, sk u)
 | .pair a b, 0, o, u, h => by simp only [offF, Option.some.injEq, Prod.mk.injEq] at h; obtain ⟨rfl, rfl⟩ := h; rfl
 | .pair a b, i + 1, o, u, h => by
  simp only [offF] at h
  cases hb : offF b i with
  | none => rw [hb] at h; cases h
  | some r =>
   rw [hb] at h
   simp only [Option.map_some, Option.some.injEq, Prod.mk.injEq] at h
   obtain ⟨rfl, rfl⟩ := h
   simp [sk, offF, offF_sk b i r.1 r.2 hb, sk_size]
 | .int _, _, _, _, h => by simp [offF] at h
 | .bool, _, _, _, h => by simp [offF] at h
 | .str, _, _, _, h => by simp [offF] at h
 | .unit, _, _, _, h => by simp [offF] at h
 | .agg _, _, _, _, h => by simp [offF] at h
 | .arr _ _, _, _, _, h => by simp [offF] at h
 | .slice _, _, _, _, h => by simp [offF] at h
 | .own _, _, _, _, h => by simp [offF] at h
 | .app _, _, _, _, h => by simp [offF] at h
 | .junk, _, _, _, h => by simp [offF] at h
 | .ptr _, _, _, _, h => by simp [offF] at h
 | .box _, _, _, _, h => by simp [offF] at h
 | .nils _, _, _, _, h => by simp [offF] at h
 | .nilp, _, _, _, h => by simp [offF] at h
 | .nili, _, _, _, h => by simp [offF] at h
 | .alt _ _ _, _, _, _, h => by simp [offF] at h

theorem offS_fld (t : Ty) (i : Nat) : offS (.agg t) (.fld i) = offF t i := by cases t <;> rfl

theorem offS_sk (t : Ty) (s : PS) (o : Nat) (u : Ty) (h : offS t s = some (o, u)) : offS (sk t) s = some (o, sk u) := by
 cases t with
 | agg t =>
  cases s with
  | fld i => rw [offS_fld] at h; simp only [sk, offS_fld]; exact offF_sk t i o u h
  | idx i =>
   cases t with
   | arr n e =>
    simp only [offS, Option.some.injEq, Prod.mk.injEq] at h
    obtain ⟨rfl, rfl⟩ := h
    simp [sk, offS, sk_size]
   | _ => simp [offS] at h
 | _ => cases s <;> simp [offS] at h

theorem offP_sk : ∀ (p : Path) (t : Ty) (o : Nat) (u : Ty), offP t p = some (o, u) → offP (sk t) p = some (o, sk u)
 | [], t, o, u, h => by simp only [offP, Option.some.injEq, Prod.mk.injEq] at h; obtain ⟨rfl, rfl⟩ := h; rfl
 | s :: p, t, o, u, h => by
  simp only [offP] at h
  cases hs : offS t s with
  | none => rw [hs] at h; cases h
  | some r =>
   rw [hs] at h
   simp only [Option.bind_some] at h
   cases hp : offP r.2 p with
   | none => rw [hp] at h; cases h
   | some q =>
    rw [hp] at h
    simp only [Option.map_some, Option.some.injEq, Prod.mk.injEq] at h
    obtain ⟨rfl, rfl⟩ := h
    simp [offP, offS_sk t s r.1 r.2 hs, offP_sk p r.2 q.1 q.2 hp]

theorem offF_back : ∀ (t : Ty) (i o : Nat) (v : Ty), offF (sk t) i = some (o, v) → ∃ u, offF t i = some (o, u) ∧ sk u = v
 | .pair a b, 0, o, u, h => by simp only [sk, offF, Option.some.injEq, Prod.mk.injEq] at h; obtain ⟨rfl, rfl⟩ := h; exact ⟨a, rfl, rfl⟩
 | .pair a b, i + 1, o, u, h => by
  simp only [sk, offF] at h
  cases hb : offF (sk b) i with
  | none => rw [hb] at h; cases h
  | some r =>
   rw [hb] at h
   simp only [Option.map_some, Option.some.injEq, Prod.mk.injEq] at h
   obtain ⟨rfl, rfl⟩ := h
   obtain ⟨u, h1, h2⟩ := offF_back b i r.1 r.2 hb
   exact ⟨u, by simp [offF, h1, sk_size], h2⟩
 | .int _, _, _, _, h => by simp [sk, offF] at h
 | .bool, _, _, _, h => by simp [sk, offF] at h
 | .str, _, _, _, h => by simp [sk, offF] at h
 | .unit, _, _, _, h => by simp [sk, offF] at h
 | .agg _, _, _, _, h => by simp [sk, offF] at h
 | .arr _ _, _, _, _, h => by simp [sk, offF] at h
 | .slice _, _, _, _, h => by simp [sk, offF] at h
 | .own _, _, _, _, h => by simp [sk, offF] at h
 | .app _, _, _, _, h => by simp [sk, offF] at h
 | .junk, _, _, _, h => by simp [sk, offF] at h
 | .ptr _, _, _, _, h => by simp [sk, offF] at h
 | .box _, _, _, _, h => by simp [sk, offF] at h
 | .nils _, _, _, _, h => by simp [sk, offF] at h
 | .nilp, _, _, _, h => by simp [sk, offF] at h
 | .nili, _, _, _, h => by simp [sk, offF] at h
 | .alt _ _ _, _, _, _, h => by simp [sk, offF] at h

theorem offS_back (t : Ty) (s : PS) (o : Nat) (v : Ty) (h : offS (sk t) s = some (o, v)) : ∃ u, offS t s = some (o, u) ∧ sk u = v := by
 cases t with
 | agg t =>
  cases s with
  | fld i => simp only [sk, offS_fld] at h ⊢; exact offF_back t i o v h
  | idx i =>
   cases t with
   | arr n e =>
    simp only [sk, offS, Option.some.injEq, Prod.mk.injEq] at h
    obtain ⟨rfl, rfl⟩ := h
    exact ⟨e, by simp [offS, sk_size], rfl⟩
   | _ => simp [sk, offS] at h
 | _ => cases s <;> simp [sk, offS] at h

theorem offP_back : ∀ (p : Path) (t : Ty) (o : Nat) (v : Ty), offP (sk t) p = some (o, v) → ∃ u, offP t p = some (o, u) ∧ sk u = v
 | [], t, o, v, h => by simp only [offP, Option.some.injEq, Prod.mk.injEq] at h; obtain ⟨rfl, rfl⟩ := h; exact ⟨t, rfl, rfl⟩
 | s :: p, t, o, v, h => by
  simp only [offP] at h
  cases hs : offS (sk t) s with
  | none => rw [hs] at h; cases h
  | some r =>
   rw [hs] at h
   simp only [Option.bind_some] at h
   obtain ⟨u, h1, h2⟩ := offS_back t s r.1 r.2 hs
   cases hp : offP r.2 p with
   | none => rw [hp] at h; cases h
   | some q =>
    rw [hp] at h
    simp only [Option.map_some, Option.some.injEq, Prod.mk.injEq] at h
    obtain ⟨rfl, rfl⟩ := h
    rw [← h2] at hp
    obtain ⟨u', h3, h4⟩ := offP_back p u q.1 q.2 hp
    exact ⟨u', by simp [offP, h1, h3], h4⟩

theorem offP_alike {t t' : Ty} {p : Path} {o : Nat} {u : Ty} (h : offP t p = some (o, u)) (hs : sk t' = sk t) : ∃ u', offP t' p = some (o, u') ∧ sk u' = sk u := by
 have := offP_sk p t o u h
 rw [← hs] at this
 exact offP_back p t' o (sk u) this

theorem offP_append : ∀ (p q : Path) (t : Ty), offP t (p ++ q) = (offP t p).bind fun r => (offP r.2 q).map fun z => (r.1 + z.1, z.2)
 | [], q, t => by
  simp only [List.nil_append, offP, Option.bind_some, Nat.zero_add]
  cases offP t q <;> rfl
 | s :: p, q, t => by
  simp only [List.cons_append, offP]
  cases offS t s with
  | none => rfl
  | some r =>
   simp only [Option.bind_some]
   rw [offP_append p q r.2]
   cases offP r.2 p with
   | none => rfl
   | some z =>
    simp only [Option.bind_some, Option.map_some]
    cases offP z.2 q <;> simp [Nat.add_assoc]

theorem getF_off : ∀ (t : Ty) (x : Option (T t)) (i : Nat) (y : ODyn), getF t x i = some y → ∃ o, offF t i = some (o, y.ty)
 | .pair a b, x, 0, y, h => by simp only [getF, Option.some.injEq] at h; subst h; exact ⟨0, rfl⟩
 | .pair a b, x, i + 1, y, h => by
  obtain ⟨o, ho⟩ := getF_off b _ i y (by simpa only [getF] using h)
  exact ⟨a.size + o, by simp [offF, ho]⟩
 | .int _, _, _, _, h => by simp [getF] at h
 | .bool, _, _, _, h => by simp [getF] at h
 | .str, _, _, _, h => by simp [getF] at h
 | .unit, _, _, _, h => by simp [getF] at h
 | .agg _, _, _, _, h => by simp [getF] at h
 | .arr _ _, _, _, _, h => by simp [getF] at h
 | .slice _, _, _, _, h => by simp [getF] at h
 | .own _, _, _, _, h => by simp [getF] at h
 | .app _, _, _, _, h => by simp [getF] at h
 | .junk, _, _, _, h => by simp [getF] at h
 | .ptr _, _, _, _, h => by simp [getF] at h
 | .box _, _, _, _, h => by simp [getF] at h
 | .nils _, _, _, _, h => by simp [getF] at h
 | .nilp, _, _, _, h => by simp [getF] at h
 | .nili, _, _, _, h => by simp [getF] at h
 | .alt _ _ _, _, _, _, h => by simp [getF] at h

theorem getS_off (d : ODyn) (s : PS) (y : ODyn) (h : getS d s = some y) : ∃ o, offS d.ty s = some (o, y.ty) := by
 obtain ⟨t, x⟩ := d
 cases t with
 | agg t =>
  cases s with
  | fld i =>
   have h : getF t x i = some y := by cases t <;> exact h
   show ∃ o, offS (.agg t) (.fld i) = _
   rw [offS_fld]; exact getF_off t x i y h
  | idx i =>
   cases t with
   | arr n e => simp only [getS, Option.some.injEq] at h; subst h; exact ⟨_, rfl⟩
   | _ => simp [getS] at h
 | _ => cases s <;> simp [getS] at h

theorem getP_off : ∀ (p : Path) (d y : ODyn), getP d p = some y → ∃ o, offP d.ty p = some (o, y.ty)
 | [], d, y, h => by simp only [getP, Option.some.injEq] at h; subst h; exact ⟨0, rfl⟩
 | s :: p, d, y, h => by
  simp only [getP] at h
  cases hs : getS d s with
  | none => rw [hs] at h; cases h
  | some z =>
   rw [hs] at h
   obtain ⟨o, ho⟩ := getS_off d s z hs
   obtain ⟨o', ho'⟩ := getP_off p z y (by simpa using h)
   exact ⟨o + o', by simp [offP, ho, ho']⟩

theorem setF_sk : ∀ (t : Ty) (x : Option (T t)) (i : Nat) (y z r : ODyn), getF t x i = some y → setF t x i z = some r → sk z.ty = sk y.ty → sk r.ty = sk t
 | .pair a b, x, 0, y, z, r, hg, hs, h => by
  simp only [getF, Option.some.injEq] at hg
  subst hg
  simp only [setF, Option.some.injEq] at hs
  subst hs
  simp only [sk]
  rw [h]
 | .pair a b, x, i + 1, y, z, r, hg, hs, h => by
  simp only [setF] at hs
  cases hb : setF b (x.map (·.2)) i z with
  | none => rw [hb] at hs; cases hs
  | some r' =>
   rw [hb] at hs
   simp only [Option.map_some, Option.some.injEq] at hs
   subst hs
   simp only [sk]
   rw [setF_sk b _ i y z r' (by simpa only [getF] using hg) hb h]
 | .int _, _, _, _, _, _, h, _, _ => by simp [getF] at h
 | .bool, _, _, _, _, _, h, _, _ => by simp [getF] at h
 | .str, _, _, _, _, _, h, _, _ => by simp [getF] at h
 | .unit, _, _, _, _, _, h, _, _ => by simp [getF] at h
 | .agg _, _, _, _, _, _, h, _, _ => by simp [getF] at h
 | .arr _ _, _, _, _, _, _, h, _, _ => by simp [getF] at h
 | .slice _, _, _, _, _, _, h, _, _ => by simp [getF] at h
 | .own _, _, _, _, _, _, h, _, _ => by simp [getF] at h
 | .app _, _, _, _, _, _, h, _, _ => by simp [getF] at h
 | .junk, _, _, _, _, _, h, _, _ => by simp [getF] at h
 | .ptr _, _, _, _, _, _, h, _, _ => by simp [getF] at h
 | .box _, _, _, _, _, _, h, _, _ => by simp [getF] at h
 | .nils _, _, _, _, _, _, h, _, _ => by simp [getF] at h
 | .nilp, _, _, _, _, _, h, _, _ => by simp [getF] at h
 | .nili, _, _, _, _, _, h, _, _ => by simp [getF] at h
 | .alt _ _ _, _, _, _, _, _, h, _, _ => by simp [getF] at h

theorem setS_sk (d : ODyn) (s : PS) (y z r : ODyn) (hg : getS d s = some y) (hs : setS d s z = some r) (h : sk z.ty = sk y.ty) : sk r.ty = sk d.ty := by
 obtain ⟨t, x⟩ := d
 cases t with
 | agg t =>
  cases s with
  | fld i =>
   have hg : getF t x i = some y := by cases t <;> exact hg
   have hs : (setF t x i z).map (fun z => (⟨.agg z.ty, z.val⟩ : ODyn)) = some r := by cases t <;> exact hs
   cases hb : setF t x i z with
   | none => rw [hb] at hs; cases hs
   | some r' =>
    rw [hb] at hs
    simp only [Option.map_some, Option.some.injEq] at hs
    subst hs
    simp only [sk]
    rw [setF_sk t x i y z r' hg hb h]
  | idx i =>
   cases t with
   | arr n e =>
    simp only [setS] at hs
    split at hs
    ·simp only [Option.some.injEq] at hs; subst hs; rfl
    ·cases hs
   | _ => simp [getS] at hg
 | _ => cases s <;> simp [getS] at hg

theorem setP_sk : ∀ (p : Path) (d y z r : ODyn), getP d p = some y → setP d p z = some r → sk z.ty = sk y.ty → sk r.ty = sk d.ty
 | [], d, y, z, r, hg, hs, h => by
  simp only [getP, Option.some.injEq] at hg; subst hg
  simp only [setP, Option.some.injEq] at hs; subst hs
  exact h
 | s :: p, d, y, z, r, hg, hs, h => by
  simp only [getP] at hg
  simp only [setP] at hs
  cases h1 : getS d s with
  | none => rw [h1] at hg; cases hg
  | some d1 =>
   rw [h1] at hg hs
   simp only [Option.bind_some] at hg hs
   cases h2 : setP d1 p z with
   | none => rw [h2] at hs; cases hs
   | some r1 =>
    rw [h2] at hs
    exact setS_sk d s d1 r1 r h1 hs (setP_sk p d1 y z r1 hg h2 h)

theorem getF_pure : ∀ (t : Ty) (x : Option (T t)) (i : Nat) (y : ODyn), t.pure = true → getF t x i = some y → y.ty.pure = true
 | .pair a b, x, 0, y, hp, h => by
  simp only [Ty.pure, Bool.and_eq_true] at hp
  simp only [getF, Option.some.injEq] at h; subst h; exact hp.1
 | .pair a b, x, i + 1, y, hp, h => by
  simp only [Ty.pure, Bool.and_eq_true] at hp
  exact getF_pure b _ i y hp.2 (by simpa only [getF] using h)
 | .int _, _, _, _, _, h => by simp [getF] at h
 | .bool, _, _, _, _, h => by simp [getF] at h
 | .str, _, _, _, _, h => by simp [getF] at h
 | .unit, _, _, _, _, h => by simp [getF] at h
 | .agg _, _, _, _, _, h => by simp [getF] at h
 | .arr _ _, _, _, _, _, h => by simp [getF] at h
 | .slice _, _, _, _, _, h => by simp [getF] at h
 | .own _, _, _, _, _, h => by simp [getF] at h
 | .app _, _, _, _, _, h => by simp [getF] at h
 | .junk, _, _, _, _, h => by simp [getF] at h
 | .ptr _, _, _, _, _, h => by simp [getF] at h
 | .box _, _, _, _, _, h => by simp [getF] at h
 | .nils _, _, _, _, _, h => by simp [getF] at h
 | .nilp, _, _, _, _, h => by simp [getF] at h
 | .nili, _, _, _, _, h => by simp [getF] at h
 | .alt _ _ _, _, _, _, _, h => by simp [getF] at h

theorem getS_pure (d : ODyn) (s : PS) (y : ODyn) (hp : d.ty.pure = true) (h : getS d s = some y) : y.ty.pure = true := by
 obtain ⟨t, x⟩ := d
 cases t with
 | agg t =>
  cases s with
  | fld i => exact getF_pure t x i y hp (by cases t <;> exact h)
  | idx i =>
   cases t with
   | arr n e => simp only [getS, Option.some.injEq] at h; subst h; exact hp
   | _ => simp [getS] at h
 | _ => cases s <;> simp [getS] at h

end
end Go.Pv

namespace Go.Pv
noncomputable section

structure PG where
 addr : Option (Nat × Nat)
 cells : List Value
 F : List Nat

def PG.blocks (g : PG) : List Nat := match g.addr with
 | some a => a.1 :: g.F
 | none => g.F

def PlR (w : World) (B : Nat → Prop) (g : PG) (d : Dyn) : Prop :=
 Rel w B d.ty d.val g.cells g.F ∧ match g.addr with
  | none => True
  | some a => Rows w a.1 a.2 g.cells ∧ ∃ c, Blk w a.1 c

mutual
def EVR (tv : Nat → Value) (w : World) (B : Nat → Prop) (G : Nat → PG) (L : Look) : EV → Value → Prop
 | .dead, _ => True
 | .val d, v => d.ty.pure = true ∧ VR w B d.ty d.val v []
 | .cst c, v => v = c
 | .clip e xs, v => e.pure = true ∧ SlR w B e.size (Rel w B e) xs v true
 | .at_ n p, v => ∃ d o u, L n = some d ∧ offP d.ty p = some (o, u) ∧ v.cells.toList = ((G n).cells.drop o).take u.size ∧ Value.agg? v = u.isAgg
 | .loc n p, v => ∃ d o u b off, L n = some d ∧ offP d.ty p = some (o, u) ∧ (G n).addr = some (b, off) ∧ v = .pointer (some ⟨b, off + o, none⟩)
 | .oel n p e i q, v => ∃ d o u b len cap qo qu, L n = some d ∧ offP d.ty p = some (o, u) ∧ (G n).cells[o]? = some (.slice (some ⟨b, 0, none⟩) len cap) ∧
   offP e q = some (qo, qu) ∧ v = .pointer (some ⟨b, i.toNat * e.size + qo, none⟩)
 | .ref d, v => d.ty.pure = true ∧ ∃ b o cells, v = .pointer (some ⟨b, o, none⟩) ∧ (B b ∨ cells = []) ∧ Rows w b o cells ∧ Rel w B d.ty d.val cells []
 | .tup l, v => ∃ vs, v = .tuple vs ∧ EVRL tv w B G L l vs.toList
 | .fn f l, v => ∃ vs, v = .func (.func f) #[] vs ∧ EVRL tv w B G L l vs.toList
 | .maybe t want c x, v => (c = true → EVR tv w B G L x v) ∧ (c = false → tv t ≠ .bool want ∧ v = undef)
 | .any, v => ∃ b, v = .bool b
 | .none_, v => v = undef
 | .alias t p d, v => (d.ty.pure = true ∧ VR w B d.ty d.val v []) ∧ (p = false → tv t = v) ∧ (p = true → v = .pointer none ∨ ∃ u, tv t = .iface u v)
def EVRL (tv : Nat → Value) (w : World) (B : Nat → Prop) (G : Nat → PG) (L : Look) : List EV → List Value → Prop
 | [], vs => vs = []
 | e :: l, vs => ∃ v r, vs = v :: r ∧ EVR tv w B G L e v ∧ EVRL tv w B G L l r
end

structure Alike (G G' : Nat → PG) (L L' : Look) (n : Nat) : Prop where
 out : ∀ d, L n = some d → ∃ d', L' n = some d' ∧ sk d'.ty = sk d.ty
 addr : (G' n).addr = (G n).addr

mutual
theorem EVR_mono {tv : Nat → Value} {w w' : World} {B B' : Nat → Prop} {G G' : Nat → PG} {L L' : Look} (hB : ∀ b, B b → Same w w' b ∧ B' b) :
  ∀ (e : EV) (v : Value), EVR tv w B G L e v → (∀ n, e.hits n true = true → Alike G G' L L' n) → (∀ n, e.hits n false = true → (G' n).cells = (G n).cells) → EVR tv w' B' G' L' e v
 | .dead, _, _, _, _ => by simp only [EVR]
 | .val d, v, h, _, _ => by
  simp only [EVR] at h ⊢
  exact ⟨h.1, h.2.same (fun b hb => (hB b hb).1) (fun b hb => (hB b hb).2) (by simp)⟩
 | .alias t p d, v, h, _, _ => by
  simp only [EVR] at h ⊢
  exact ⟨⟨h.1.1, h.1.2.same (fun b hb => (hB b hb).1) (fun b hb => (hB b hb).2) (by simp)⟩, h.2⟩
 | .cst c, v, h, _, _ => h
 | .any, v, h, _, _ => h
 | .none_, v, h, _, _ => h
 | .clip e xs, v, h, _, _ => by
  simp only [EVR] at h ⊢
  exact ⟨h.1, h.2.mono (fun b hb => (hB b hb).1) (fun b hb => (hB b hb).2) (fun x cs h => Rel_same (fun b hb => (hB b hb).1) (fun b hb => (hB b hb).2) e x cs [] h (by simp)) (fun _ _ _ _ _ => trivial)⟩
 | .at_ n p, v, h, h1, h2 => by
  simp only [EVR] at h ⊢
  obtain ⟨d, o, u, hd, ho, hv, ha⟩ := h
  obtain ⟨d', hd', hs⟩ := (h1 n (by simp [EV.hits])).out d hd
  obtain ⟨u', ho', hu⟩ := offP_alike ho hs
  exact ⟨d', o, u', hd', ho', by rw [h2 n (by simp [EV.hits]), hv, size_of_sk hu], by rw [ha, agg_of_sk hu]⟩
 | .loc n p, v, h, h1, _ => by
  simp only [EVR] at h ⊢
  obtain ⟨d, o, u, b, off, hd, ho, hv, ha⟩ := h
  have k := h1 n (by simp [EV.hits])
  obtain ⟨d', hd', hs⟩ := k.out d hd
  obtain ⟨u', ho', hu⟩ := offP_alike ho hs
  exact ⟨d', o, u', b, off, hd', ho', by rw [k.addr, hv], ha⟩
 | .oel n p e i q, v, h, h1, h2 => by
  simp only [EVR] at h ⊢
  obtain ⟨d, o, u, b, len, cap, qo, qu, hd, ho, hc, hq, hv⟩ := h
  obtain ⟨d', hd', hs⟩ := (h1 n (by simp [EV.hits])).out d hd
  obtain ⟨u', ho', hu⟩ := offP_alike ho hs
  exact ⟨d', o, u', b, len, cap, qo, qu, hd', ho', by rw [h2 n (by simp [EV.hits]), hc], hq, hv⟩
 | .ref d, v, h, _, _ => by
  simp only [EVR] at h ⊢
  obtain ⟨hp, b, o, cells, hv, hb, hr, h⟩ := h
  refine ⟨hp, b, o, cells, hv, hb.imp (fun h => (hB b h).2) id, ?_, Rel_same (fun b hb => (hB b hb).1) (fun b hb => (hB b hb).2) _ _ _ _ h (by simp)⟩
  rcases hb with hb | hb
  ·exact hr.same (hB b hb).1
  ·subst hb; intro i v hi; simp at hi
 | .tup l, v, h, h1, h2 => by
  simp only [EVR] at h ⊢
  obtain ⟨vs, hv, h⟩ := h
  exact ⟨vs, hv, EVRL_mono hB l _ h (fun n hn => h1 n (by simpa only [EV.hits] using hn)) (fun n hn => h2 n (by simpa only [EV.hits] using hn))⟩
 | .fn f l, v, h, h1, h2 => by
  simp only [EVR] at h ⊢
  obtain ⟨vs, hv, h⟩ := h
  exact ⟨vs, hv, EVRL_mono hB l _ h (fun n hn => h1 n (by simpa only [EV.hits] using hn)) (fun n hn => h2 n (by simpa only [EV.hits] using hn))⟩
 | .maybe t want c x, v, h, h1, h2 => by
  simp only [EVR] at h ⊢
  exact ⟨fun ht => EVR_mono hB x v (h.1 ht) (fun n hn => h1 n (by simpa only [EV.hits] using hn)) (fun n hn => h2 n (by simpa only [EV.hits] using hn)), h.2⟩
theorem EVRL_mono {tv : Nat → Value} {w w' : World} {B B' : Nat → Prop} {G G' : Nat → PG} {L L' : Look} (hB : ∀ b, B b → Same w w' b ∧ B' b) :
  ∀ (l : List EV) (vs : List Value), EVRL tv w B G L l vs → (∀ n, EV.hitsL n true l = true → Alike G G' L L' n) → (∀ n, EV.hitsL n false l = true → (G' n).cells = (G n).cells) → EVRL tv w' B' G' L' l vs
 | [], _, h, _, _ => h
 | e :: l, vs, h, h1, h2 => by
  simp only [EVRL] at h ⊢
  obtain ⟨v, r, hv, he, hl⟩ := h
  exact ⟨v, r, hv, EVR_mono hB e v he (fun n hn => h1 n (by simp [EV.hitsL, hn])) (fun n hn => h2 n (by simp [EV.hitsL, hn])),
   EVRL_mono hB l r hl (fun n hn => h1 n (by simp [EV.hitsL, hn])) (fun n hn => h2 n (by simp [EV.hitsL, hn]))⟩
end

mutual
theorem EVR_tv {tv tv' : Nat → Value} {w : World} {B : Nat → Prop} {G : Nat → PG} {L : Look} {t : Nat} (ht : ∀ s, s ≠ t → tv' s = tv s) :
  ∀ (e : EV) (v : Value), e.hangs t = false → EVR tv w B G L e v → EVR tv' w B G L e v
 | .dead, _, _, h => h
 | .val d, v, _, h => h
 | .cst c, v, _, h => h
 | .any, v, _, h => h
 | .none_, v, _, h => h
 | .clip e xs, v, _, h => h
 | .at_ n p, v, _, h => h
 | .loc n p, v, _, h => h
 | .oel n p e i q, v, _, h => h
 | .ref d, v, _, h => h
 | .alias t' p d, v, hh, h => by
  simp only [EVR] at h ⊢
  simp only [EV.hangs] at hh
  rw [ht t' (by intro e; subst e; simp at hh)]
  exact h
 | .tup l, v, hh, h => by
  simp only [EVR] at h ⊢
  obtain ⟨vs, hv, h⟩ := h
  exact ⟨vs, hv, EVRL_tv ht l _ (by simpa only [EV.hangs] using hh) h⟩
 | .fn f l, v, hh, h => by
  simp only [EVR] at h ⊢
  obtain ⟨vs, hv, h⟩ := h
  exact ⟨vs, hv, EVRL_tv ht l _ (by simpa only [EV.hangs] using hh) h⟩
 | .maybe t' want c x, v, hh, h => by
  simp only [EVR] at h ⊢
  simp only [EV.hangs, Bool.or_eq_false_iff] at hh
  rw [ht t' (by intro e; subst e; simp at hh)]
  exact ⟨fun hc => EVR_tv ht x v hh.2 (h.1 hc), h.2⟩
theorem EVRL_tv {tv tv' : Nat → Value} {w : World} {B : Nat → Prop} {G : Nat → PG} {L : Look} {t : Nat} (ht : ∀ s, s ≠ t → tv' s = tv s) :
  ∀ (l : List EV) (vs : List Value), EV.hangsL t l = false → EVRL tv w B G L l vs → EVRL tv' w B G L l vs
 | [], _, _, h => h
 | e :: l, vs, hh, h => by
  simp only [EVRL] at h ⊢
  simp only [EV.hangsL, Bool.or_eq_false_iff] at hh
  obtain ⟨v, r, hv, he, hl⟩ := h
  exact ⟨v, r, hv, EVR_tv ht e v hh.1 he, EVRL_tv ht l r hh.2 hl⟩
end

theorem beq_ne {n m : Nat} (h : n ≠ m) : Nat.beq n m = false := by
 cases hb : Nat.beq n m with
 | false => rfl
 | true => exact absurd (Nat.eq_of_beq_eq_true hb) h

theorem lk_rmv {α : Type} (n m : Nat) : ∀ l : List (Nat × α), lk m (rmv n l) = if m = n then none else lk m l
 | [] => by simp [rmv, lk]
 | (k, a) :: r => by
  have ih := lk_rmv n m r
  simp only [rmv]
  by_cases h : n = k
  ·subst h
   simp only [Nat.beq_refl, cond_true, ih, lk]
   by_cases hm : m = n
   ·simp [hm]
   ·have : Nat.beq m n = false := beq_ne hm
    simp [hm, this]
  ·have hb : Nat.beq n k = false := beq_ne h
   simp only [hb, cond_false, lk, ih]
   by_cases hk : m = k
   ·subst hk
    have : m ≠ n := fun e => h e.symm
    simp [this]
   ·have : Nat.beq m k = false := beq_ne hk
    simp [this]

theorem lk_put {α : Type} (n m : Nat) (a : α) (l : List (Nat × α)) : lk m (put n a l) = if m = n then some a else lk m l := by
 unfold put
 simp only [lk, lk_rmv]
 by_cases h : m = n
 ·simp [h]
 ·have : Nat.beq m n = false := beq_ne h
  simp [h, this]

theorem lk_map {α β : Type} (f : Nat × α → β) (m : Nat) : ∀ l : List (Nat × α), lk m (l.map fun x => (x.1, f x)) = (lk m l).map fun a => f (m, a)
 | [] => rfl
 | (k, a) :: r => by
  simp only [List.map_cons, lk]
  by_cases h : m = k
  ·subst h; simp
  ·have : Nat.beq m k = false := beq_ne h
   simp only [this, cond_false]
   exact lk_map f m r

structure Cx where
 P : Program
 nt : Nat
 w0 : World
 B0 : Nat → Prop
 ob : List Nat
 oa : Nat → Option (Nat × Nat × Nat)
 dr : Bool

def tv (a : Act) (t : Nat) : Value := a.tmps.getD t undef

abbrev look (st : St) : Look := fun n => lk n st.pl

structure Inv (X : Cx) (st : St) (a : Act) (w : World) (B : Nat → Prop) (G : Nat → PG) : Prop where
 defers : a.defers = []
 nt : a.tmps.size = X.nt
 bsz : ∀ b, B b → b < w.heap.size
 b0 : ∀ b, X.B0 b → B b
 bold : ∀ b, b < X.w0.heap.size → B b → X.B0 b ∨ b ∈ X.ob
 env : ∀ t e, lk t st.env = some e → EVR (tv a) w B G (look st) e (tv a t)
 pl : ∀ n d, lk n st.pl = some d → PlR w B (G n) d
 sep : ∀ n d, lk n st.pl = some d → (G n).blocks.Nodup ∧ ∀ b ∈ (G n).blocks, ¬ B b ∧ (b < X.w0.heap.size → b ∈ X.ob)
 apart : ∀ n m d d', lk n st.pl = some d → lk m st.pl = some d' → n ≠ m → ∀ b ∈ (G n).blocks, b ∉ (G m).blocks
 size : X.w0.heap.size ≤ w.heap.size
 old : ∀ b, b < X.w0.heap.size → b ∉ X.ob → Same X.w0 w b
 rest : w.tape = X.w0.tape ∧ w.os = X.w0.os ∧ w.output = X.w0.output ∧ (X.dr = true → X.w0.drawn ≤ w.drawn)
 obj : ∀ k d, lk (objName k) st.pl = some d → ∃ b o s, X.oa k = some (b, o, s) ∧ (G (objName k)).addr = some (b, o) ∧ d.ty.size = s
 oaLt : ∀ k b o s, X.oa k = some (b, o, s) → b < X.w0.heap.size
 objL : ∀ k b o s, X.oa k = some (b, o, s) → ∃ d, lk (objName k) st.pl = some d
 objR : ∀ k b o s, X.oa k = some (b, o, s) → ∀ i, i < o ∨ o + s ≤ i → w.cell? ⟨b, i, none⟩ = X.w0.cell? ⟨b, i, none⟩

def Upd.hard : Upd → Bool
 | .del => true
 | .new _ => true
 | _ => false
def Upd.soft : Upd → Bool
 | .set _ => true
 | _ => false

theorem kill_lk (n : Nat) (hard : Bool) (t : Nat) (env : Env) (e : EV) (h : lk t (kill n hard env) = some e) : e = .dead ∨ (lk t env = some e ∧ e.hits n hard = false) := by
 unfold kill at h
 rw [lk_map (fun x : Nat × EV => bif x.2.hits n hard then EV.dead else x.2)] at h
 cases h0 : lk t env with
 | none => rw [h0] at h; cases h
 | some x =>
  rw [h0] at h
  simp only [Option.map_some, Option.some.injEq] at h
  cases hx : x.hits n hard with
  | true => rw [hx] at h; exact .inl h.symm
  | false => rw [hx] at h; simp only [cond_false] at h; subst h; exact .inr ⟨rfl, hx⟩

theorem killM_lk (d : Nat) (t : Nat) (env : Env) (e : EV) (h : lk t (killM d env) = some e) : e = .dead ∨ (lk t env = some e ∧ e.hangs d = false) := by
 unfold killM at h
 rw [lk_map (fun x : Nat × EV => bif x.2.hangs d then EV.dead else x.2)] at h
 cases h0 : lk t env with
 | none => rw [h0] at h; cases h
 | some x =>
  rw [h0] at h
  simp only [Option.map_some, Option.some.injEq] at h
  cases hx : x.hangs d with
  | true => rw [hx] at h; exact .inl h.symm
  | false => rw [hx] at h; simp only [cond_false] at h; subst h; exact .inr ⟨rfl, hx⟩

theorem apply1_env (u : Nat × Upd) (s : St) (t : Nat) (e : EV) (h : lk t (apply1 u s).env = some e) :
  e = .dead ∨ (lk t s.env = some e ∧ (u.2.hard = true → e.hits u.1 true = false) ∧ (u.2.soft = true → e.hits u.1 false = false)) := by
 obtain ⟨n, u⟩ := u
 cases u with
 | del => exact (kill_lk n true t s.env e h).imp id fun ⟨h1, h2⟩ => ⟨h1, fun _ => h2, fun (h : false = true) => Bool.noConfusion h⟩
 | new d => exact (kill_lk n true t s.env e h).imp id fun ⟨h1, h2⟩ => ⟨h1, fun _ => h2, fun (h : false = true) => Bool.noConfusion h⟩
 | set d => exact (kill_lk n false t s.env e h).imp id fun ⟨h1, h2⟩ => ⟨h1, fun (h : false = true) => Bool.noConfusion h, fun _ => h2⟩
 | keep d => exact .inr ⟨h, ⟨fun (h : false = true) => Bool.noConfusion h, fun (h : false = true) => Bool.noConfusion h⟩⟩

theorem applyU_env : ∀ (U : Upds) (s : St) (t : Nat) (e : EV), lk t (applyU U s).env = some e →
  e = .dead ∨ (lk t s.env = some e ∧ ∀ u ∈ U, (u.2.hard = true → e.hits u.1 true = false) ∧ (u.2.soft = true → e.hits u.1 false = false))
 | [], s, t, e, h => .inr ⟨h, fun u hu => by cases hu⟩
 | u :: r, s, t, e, h => by
  rcases applyU_env r (apply1 u s) t e h with h1 | ⟨h1, h2⟩
  ·exact .inl h1
  ·rcases apply1_env u s t e h1 with h3 | ⟨h3, h4⟩
   ·exact .inl h3
   ·refine .inr ⟨h3, fun v hv => ?_⟩
    rcases List.mem_cons.1 hv with rfl | hv
    ·exact h4
    ·exact h2 v hv

theorem apply1_pl (u : Nat × Upd) (s : St) (m : Nat) : lk m (apply1 u s).pl = if m = u.1 then (match u.2 with | .del => none | .new d => some d | .set d => some d | .keep d => some d) else lk m s.pl := by
 obtain ⟨n, u⟩ := u
 cases u <;> simp only [apply1, lk_rmv, lk_put]

theorem applyU_pl_other : ∀ (U : Upds) (s : St) (m : Nat), m ∉ updNames U → lk m (applyU U s).pl = lk m s.pl
 | [], _, _, _ => rfl
 | u :: r, s, m, h => by
  simp only [updNames, List.map_cons, List.mem_cons, not_or] at h
  show lk m (applyU r (apply1 u s)).pl = _
  rw [applyU_pl_other r _ m (by simpa [updNames] using h.2), apply1_pl, if_neg h.1]

mutual
theorem hits_soft_hard : ∀ (e : EV) (n : Nat), e.hits n false = true → e.hits n true = true
 | .tup l, n, h => by simp only [EV.hits] at h ⊢; exact hitsL_soft_hard l n h
 | .fn f l, n, h => by simp only [EV.hits] at h ⊢; exact hitsL_soft_hard l n h
 | .maybe t w c v, n, h => by simp only [EV.hits] at h ⊢; exact hits_soft_hard v n h
 | .loc m p, n, h => by simp [EV.hits] at h
 | .at_ m p, n, h => by simpa [EV.hits] using h
 | .oel m p e i q, n, h => by simpa [EV.hits] using h
 | .dead, n, h => by simp [EV.hits] at h
 | .val d, n, h => by simp [EV.hits] at h
 | .alias _ _ _, n, h => by simp [EV.hits] at h
 | .cst c, n, h => by simp [EV.hits] at h
 | .clip e xs, n, h => by simp [EV.hits] at h
 | .ref d, n, h => by simp [EV.hits] at h
theorem hitsL_soft_hard : ∀ (l : List EV) (n : Nat), EV.hitsL n false l = true → EV.hitsL n true l = true
 | [], n, h => by simp [EV.hitsL] at h
 | x :: l, n, h => by
  simp only [EV.hitsL, Bool.or_eq_true] at h ⊢
  exact h.imp (hits_soft_hard x n) (hitsL_soft_hard l n)
end

def Upd.isDel : Upd → Bool
 | .del => true
 | _ => false

theorem applyU_alive : ∀ (U : Upds) (s : St) (m : Nat) (d : Dyn), (∀ u ∈ U, u.2.isDel = true → u.1 ≠ m) → lk m s.pl = some d → ∃ d', lk m (applyU U s).pl = some d'
 | [], _, _, d, _, h => ⟨d, h⟩
 | u :: r, s, m, d, hn, h => by
  have h1 : ∃ d', lk m (apply1 u s).pl = some d' := by
   rw [apply1_pl]
   split
   ·rename_i e
    have := hn u (by simp)
    obtain ⟨n, u⟩ := u
    cases u with
    | del => exact absurd e.symm (this rfl)
    | new d => exact ⟨d, rfl⟩
    | set d => exact ⟨d, rfl⟩
    | keep d => exact ⟨d, rfl⟩
   ·exact ⟨d, h⟩
  obtain ⟨d1, h1⟩ := h1
  exact applyU_alive r (apply1 u s) m d1 (fun u hu => hn u (by simp [hu])) h1

theorem Inv.move {X : Cx} {st : St} {a : Act} {w : World} {B : Nat → Prop} {G : Nat → PG} (h : Inv X st a w B G) (U : Upds) (w' : World) (B' : Nat → Prop) (G' : Nat → PG)
  (hsz : w.heap.size ≤ w'.heap.size) (hrest : w'.tape = w.tape ∧ w'.os = w.os ∧ w'.output = w.output ∧ (X.dr = true → w.drawn ≤ w'.drawn))
  (hB : ∀ b, B b → Same w w' b ∧ B' b) (hBs : ∀ b, B' b → b < w'.heap.size) (hBo : ∀ b, b < X.w0.heap.size → B' b → B b ∨ b ∈ X.ob)
  (hold : ∀ b, b < X.w0.heap.size → b ∉ X.ob → Same w w' b)
  (hpl : ∀ n d, lk n (applyU U st).pl = some d → PlR w' B' (G' n) d ∧ (G' n).blocks.Nodup ∧ ∀ b ∈ (G' n).blocks, ¬ B' b ∧ (b < X.w0.heap.size → b ∈ X.ob))
  (hap : ∀ n m d d', lk n (applyU U st).pl = some d → lk m (applyU U st).pl = some d' → n ≠ m → ∀ b ∈ (G' n).blocks, b ∉ (G' m).blocks)
  (hG : ∀ n, n ∉ updNames U → G' n = G n)
  (hU : ∀ u ∈ U, u.2.hard = true ∨ ((G' u.1).addr = (G u.1).addr ∧ (∃ d d', lk u.1 st.pl = some d ∧ lk u.1 (applyU U st).pl = some d' ∧ sk d'.ty = sk d.ty) ∧ (u.2.soft = true ∨ (G' u.1).cells = (G u.1).cells ∨ ∃ v ∈ U, v.1 = u.1 ∧ v.2.soft = true)))
  (hobj : ∀ k d, lk (objName k) (applyU U st).pl = some d → ∃ b o s, X.oa k = some (b, o, s) ∧ (G' (objName k)).addr = some (b, o) ∧ d.ty.size = s)
  (hobjR : ∀ k b o s, X.oa k = some (b, o, s) → ∀ i, i < o ∨ o + s ≤ i → w'.cell? ⟨b, i, none⟩ = w.cell? ⟨b, i, none⟩)
  (hal : ∀ u ∈ U, u.2.isDel = true → u.1 % 2 = 0) :
  Inv X (applyU U st) a w' B' G' where
 defers := h.defers
 nt := h.nt
 bsz := hBs
 b0 := fun b hb => (hB b (h.b0 b hb)).2
 bold := fun b hb hb' => (hBo b hb hb').elim (h.bold b hb) .inr
 env := by
  intro t e he
  rcases applyU_env U st t e he with rfl | ⟨h1, h2⟩
  ·simp only [EVR]
  ·have key : ∀ n, n ∈ updNames U → e.hits n true = true → ∃ u ∈ U, u.1 = n ∧ u.2.hard = false := by
    intro n hn hh
    obtain ⟨u, hu, rfl⟩ := List.mem_map.1 hn
    refine ⟨u, hu, rfl, ?_⟩
    cases hx : u.2.hard with
    | false => rfl
    | true => rw [(h2 u hu).1 hx] at hh; cases hh
   refine EVR_mono hB e _ (h.env t e h1) (fun n hn => ?_) (fun n hn => ?_)
   ·by_cases hm : n ∈ updNames U
    ·obtain ⟨u, hu, rfl, hx⟩ := key n hm hn
     rcases hU u hu with hc | ⟨ha, ⟨d, d', hd, hd', hs⟩, _⟩
     ·rw [hx] at hc; cases hc
     ·exact ⟨fun d0 hd0 => ⟨d', hd', by have : d = d0 := Option.some.inj (hd.symm.trans hd0); subst this; exact hs⟩, ha⟩
    ·exact ⟨fun d hd => ⟨d, by show lk n (applyU U st).pl = _; rw [applyU_pl_other U st n hm]; exact hd, rfl⟩, by rw [hG n hm]⟩
   ·by_cases hm : n ∈ updNames U
    ·obtain ⟨u, hu, rfl, hx⟩ := key n hm (hits_soft_hard e n hn)
     rcases hU u hu with hc | ⟨_, _, hc | hc | ⟨v, hv, hvn, hc⟩⟩
     ·rw [hx] at hc; cases hc
     ·rw [(h2 u hu).2 hc] at hn; cases hn
     ·exact hc
     ·have := (h2 v hv).2 hc
      rw [hvn] at this
      rw [this] at hn; cases hn
    ·rw [hG n hm]
 pl := fun n d hd => (hpl n d hd).1
 sep := fun n d hd => (hpl n d hd).2
 apart := hap
 size := Nat.le_trans h.size hsz
 old := fun b hb hn => (hold b hb hn).trans (h.old b hb hn)
 rest := ⟨hrest.1.trans h.rest.1, hrest.2.1.trans h.rest.2.1, hrest.2.2.1.trans h.rest.2.2.1, fun hd => Nat.le_trans (h.rest.2.2.2 hd) (hrest.2.2.2 hd)⟩
 obj := hobj
 oaLt := h.oaLt
 objL := fun k b o s ho => by
  obtain ⟨d, hd⟩ := h.objL k b o s ho
  exact applyU_alive U st _ d (fun u hu hx e => by have := hal u hu hx; rw [e] at this; unfold objName at this; omega) hd
 objR := fun k b o s ho i hi => (hobjR k b o s ho i hi).trans (h.objR k b o s ho i hi)

theorem Inv.put {X : Cx} {st : St} {a : Act} {w : World} {B : Nat → Prop} {G : Nat → PG} (h : Inv X st a w B G) {d : Nat} {e : EV} {v : Value} (hd : d < X.nt)
  (he : EVR (tv a) w B G (look st) e v) (hh : e.hangs d = false) : Inv X ⟨putE d e st.env, st.pl⟩ (a.put (some d) v) w B G where
 defers := h.defers
 nt := by simp [Act.put, h.nt]
 bsz := h.bsz
 b0 := h.b0
 bold := h.bold
 env := by
  have htv : ∀ s, s ≠ d → tv (a.put (some d) v) s = tv a s := by
   intro s hs
   simp only [tv, Act.put, Array.getD_eq_getD_getElem?]
   rw [Array.getElem?_setIfInBounds_ne (Ne.symm hs)]
  intro t x hx
  unfold putE at hx
  rw [lk_put] at hx
  split at hx
  ·rename_i ht
   subst ht
   obtain rfl := Option.some.inj hx
   have : tv (a.put (some t) v) t = v := by
    simp [tv, Act.put, h.nt, hd]
   rw [this]
   exact EVR_tv htv e v hh he
  ·rename_i ht
   rcases killM_lk d t st.env x hx with rfl | ⟨h1, h2⟩
   ·simp only [EVR]
   ·rw [htv t ht]
    exact EVR_tv htv x _ h2 (h.env t x h1)
 pl := h.pl
 sep := h.sep
 apart := h.apart
 size := h.size
 old := h.old
 rest := h.rest
 obj := h.obj
 oaLt := h.oaLt
 objL := h.objL
 objR := h.objR

end
end Go.Pv

namespace Go.Pv
noncomputable section

theorem cells_one {v c : Value} (h : v.cells.toList = [c]) (ha : Value.agg? v = false) : v = c := by
 cases v <;> first | (simp [Value.agg?] at ha; done) | (simpa [Value.cells] using h)

theorem cells_agg {v : Value} (ha : Value.agg? v = true) : ∃ cs, v = .agg cs := by
 cases v <;> first | exact ⟨_, rfl⟩ | (simp [Value.agg?] at ha)

theorem VR.one {w : World} {B : Nat → Prop} {t : Ty} {x : T t} {v : Value} {F : List Nat} (h : VR w B t x v F) (ht : t.isAgg = false) (hs : t.size = 1) : v.cells = #[v] ∧ Rel w B t x [v] F := by
 have ha := h.2
 rw [ht] at ha
 have : v.cells = #[v] := by cases v <;> first | rfl | (simp [Value.agg?] at ha)
 exact ⟨this, by have := h.1; rw [‹v.cells = #[v]›] at this; exact this⟩

theorem rd_ok {X : Cx} {st : St} {a : Act} {w : World} {B : Nat → Prop} {G : Nat → PG} (h : Inv X st a w B G) {e : EV} {v : Value} {t : Ty} {x : T t}
  (he : EVR (tv a) w B G (look st) e v) (hr : e.rd (look st) = some ⟨t, some x⟩) : ∃ F, VR w B t x v F := by
 cases e with
 | val d =>
  simp only [EV.rd, Option.some.injEq] at hr
  obtain ⟨ty, val⟩ := d
  simp only [ODyn.mk.injEq] at hr
  obtain ⟨rfl, hr⟩ := hr
  obtain rfl := Option.some.inj (eq_of_heq hr)
  simp only [EVR] at he
  exact ⟨[], he.2⟩
 | alias t' p' d =>
  simp only [EV.rd, Option.some.injEq] at hr
  obtain ⟨ty, val⟩ := d
  simp only [ODyn.mk.injEq] at hr
  obtain ⟨rfl, hr⟩ := hr
  obtain rfl := Option.some.inj (eq_of_heq hr)
  simp only [EVR] at he
  exact ⟨[], he.1.2⟩
 | clip e xs =>
  simp only [EV.rd, Option.some.injEq, ODyn.mk.injEq] at hr
  obtain ⟨rfl, hr⟩ := hr
  obtain rfl := Option.some.inj (eq_of_heq hr)
  simp only [EVR] at he
  obtain ⟨_, a0, cap, cells, h1, h2, h3, h4, h5, h6, h7⟩ := he
  exact ⟨[], by subst h1; exact ⟨⟨rfl, _, rfl, a0, cap, cells, rfl, h2, h3, by simp, h5, h6, h7⟩, rfl⟩⟩
 | at_ n p =>
  simp only [EV.rd] at hr
  simp only [EVR] at he
  obtain ⟨d, o, u, hd, ho, hv, ha⟩ := he
  rw [hd] at hr
  simp only [Option.bind_some] at hr
  obtain ⟨hR, _⟩ := h.pl n d hd
  obtain ⟨o', pre, mid, post, F1, F2, F3, ho', hc, hl, hF, hm, _⟩ := getP_rel p d.ty d.val _ x _ _ hr rfl hR
  rw [ho] at ho'
  simp only [Option.some.injEq, Prod.mk.injEq] at ho'
  obtain ⟨rfl, rfl⟩ := ho'
  refine ⟨F2, ?_, ha⟩
  rw [hv, hc, List.append_assoc, List.drop_append_of_le_length (by omega), ← hl, List.drop_length, List.nil_append]
  have := Rel_length w B _ _ _ _ hm
  rw [← this, List.take_left']
  ·exact hm
  ·rfl
 | _ => simp [EV.rd] at hr

theorem int?_ok {X : Cx} {st : St} {a : Act} {w : World} {B : Nat → Prop} {G : Nat → PG} (h : Inv X st a w B G) {e : EV} {v : Value} {k : IntKind} {n : Int}
  (he : EVR (tv a) w B G (look st) e v) (hr : e.int? (look st) = some (k, some n)) : v = .int k n ∧ inR k n = true := by
 have key : ∀ e : EV, (∀ c, e ≠ .cst c) → EVR (tv a) w B G (look st) e v → ((e.rd (look st)).bind fun d => match d with | ⟨.int k, n⟩ => some (k, n) | _ => none) = some (k, some n) → v = .int k n ∧ inR k n = true := by
  intro e _ he hr
  cases hd : e.rd (look st) with
  | none => rw [hd] at hr; cases hr
  | some d =>
   rw [hd] at hr
   simp only [Option.bind_some] at hr
   split at hr
   ·simp only [Option.some.injEq, Prod.mk.injEq] at hr
    obtain ⟨rfl, rfl⟩ := hr
    obtain ⟨F, hR, ha⟩ := rd_ok h he hd
    obtain ⟨h1, h2, h3⟩ := hR
    exact ⟨cells_one h1 ha, h2⟩
   ·cases hr
 cases e with
 | cst c =>
  cases c with
  | int k' n' =>
   simp only [EV.int?] at hr
   split at hr
   ·simp only [Option.some.injEq, Prod.mk.injEq] at hr
    obtain ⟨rfl, rfl⟩ := hr
    simp only [EVR] at he
    exact ⟨he, by assumption⟩
   ·cases hr
  | _ => simp [EV.int?, EV.rd] at hr
 | _ => exact key _ (by intro c hc; cases hc) he hr

theorem inR_zero (k : IntKind) : inR k 0 = true := by cases k <;> decide

theorem zc_rel {w : World} {B : Nat → Prop} : ∀ (t : Ty) (v : Value), zc t v = true → Rel w B t (dflt t) [v] []
 | .int k, v, h => by
  cases v <;> simp [zc] at h
  obtain ⟨rfl, rfl⟩ := h
  exact ⟨rfl, inR_zero _, rfl⟩
 | .bool, v, h => by
  cases v <;> simp [zc] at h
  subst h
  exact ⟨rfl, rfl⟩
 | .str, v, h => by
  cases v <;> simp [zc] at h
  rename_i s
  have hs : s.data.size = 0 := by simpa using h
  refine ⟨s, rfl, ?_, ?_, rfl⟩
  ·show bytesOf s = []
   simp [bytesOf, Array.eq_empty_of_size_eq_zero hs]
  ·show s.data.size ≤ _
   rw [hs]; exact Nat.zero_le _
 | .nils _, v, h => by
  unfold zc at h
  split at h
  ·exact ⟨rfl, rfl⟩
  ·cases h
 | .slice _, v, h => by
  unfold zc at h
  split at h
  ·exact ⟨rfl, _, rfl, none, 0, [], rfl, Nat.zero_le _, Nat.zero_le _, by simp, by simp [dflt], ⟨rfl, rfl⟩, rfl⟩
  ·cases h
 | .nilp, v, h => by
  unfold zc at h
  split at h
  ·exact ⟨rfl, rfl⟩
  ·cases h
 | .ptr _, v, h => by
  unfold zc at h
  split at h
  ·exact ⟨rfl, rfl⟩
  ·cases h
 | .nili, v, h => by
  unfold zc at h
  split at h
  ·exact ⟨rfl, rfl⟩
  ·cases h
 | .alt _ _ r, v, h => ⟨rfl, zc_rel r v h, rfl⟩
 | .unit, _, h => by simp [zc] at h
 | .pair _ _, _, h => by simp [zc] at h
 | .agg _, _, h => by simp [zc] at h
 | .arr _ _, _, h => by simp [zc] at h
 | .own _, _, h => by simp [zc] at h
 | .app _, _, h => by simp [zc] at h
 | .junk, _, h => by simp [zc] at h
 | .box _, _, h => by simp [zc] at h

theorem isZ_one {w : World} {B : Nat → Prop} (t : Ty) (cs r : List Value) (h : (match cs with | [] => none | v :: r => bif zc t v then some r else none) = some r) :
  ∃ c, cs = c ++ r ∧ Rel w B t (dflt t) c [] := by
 cases cs with
 | nil => cases h
 | cons v l =>
  simp only at h
  cases hz : zc t v with
  | false => rw [hz] at h; cases h
  | true =>
   rw [hz] at h
   obtain rfl := Option.some.inj h
   exact ⟨[v], rfl, zc_rel t v hz⟩

theorem isZ_rel {w : World} {B : Nat → Prop} : ∀ (t : Ty) (cs r : List Value), isZ t cs = some r → ∃ c, cs = c ++ r ∧ Rel w B t (dflt t) c []
 | .unit, cs, r, h => by
  obtain rfl := Option.some.inj h
  exact ⟨[], rfl, rfl, rfl⟩
 | .pair a b, cs, r, h => by
  simp only [isZ] at h
  cases h1 : isZ a cs with
  | none => rw [h1] at h; cases h
  | some m =>
   rw [h1] at h
   obtain ⟨c1, rfl, k1⟩ := isZ_rel (w := w) (B := B) a cs m h1
   obtain ⟨c2, rfl, k2⟩ := isZ_rel (w := w) (B := B) b m r h
   exact ⟨c1 ++ c2, by simp, c1, c2, [], [], rfl, rfl, k1, k2⟩
 | .agg a, cs, r, h => isZ_rel a cs r h
 | .arr n e, cs, r, h => by
  have key : ∀ n cs r, times (isZ e) n cs = some r → ∃ c, cs = c ++ r ∧ RelL (Rel w B e) (List.replicate n (dflt e)) c [] := by
   intro n
   induction n with
   | zero => intro cs r h; obtain rfl := Option.some.inj h; exact ⟨[], rfl, rfl, rfl⟩
   | succ n ih =>
    intro cs r h
    simp only [times] at h
    cases h1 : isZ e cs with
    | none => rw [h1] at h; cases h
    | some m =>
     rw [h1] at h
     obtain ⟨c1, rfl, k1⟩ := isZ_rel (w := w) (B := B) e cs m h1
     obtain ⟨c2, rfl, k2⟩ := ih m r h
     exact ⟨c1 ++ c2, by simp, c1, c2, [], [], rfl, rfl, k1, k2⟩
  obtain ⟨c, hc, k⟩ := key n cs r h
  exact ⟨c, hc, by simp [dflt], k⟩
 | .int k, cs, r, h => isZ_one _ cs r h
 | .bool, cs, r, h => isZ_one _ cs r h
 | .str, cs, r, h => isZ_one _ cs r h
 | .nils e, cs, r, h => isZ_one _ cs r h
 | .slice e, cs, r, h => isZ_one _ cs r h
 | .nilp, cs, r, h => isZ_one _ cs r h
 | .ptr t, cs, r, h => isZ_one _ cs r h
 | .nili, cs, r, h => isZ_one _ cs r h
 | .alt u t s, cs, r, h => isZ_one _ cs r h
 | .own e, cs, r, h => isZ_one _ cs r h
 | .app e, cs, r, h => isZ_one _ cs r h
 | .junk, cs, r, h => isZ_one _ cs r h
 | .box t, cs, r, h => isZ_one _ cs r h
 | .iter, cs, r, h => isZ_one _ cs r h

theorem isZ_all {w : World} {B : Nat → Prop} {t : Ty} {cs : List Value} (h : isZ t cs = some []) : Rel w B t (dflt t) cs [] := by
 obtain ⟨c, hc, k⟩ := isZ_rel (w := w) (B := B) t cs [] h
 rw [hc, List.append_nil]; exact k

theorem tyOf_pure (P : Program) : ∀ (n : Nat) (t : TypeId) (ty : Ty), tyOf P n t = some ty → ty.pure = true
 | 0, _, _, h => by cases h
 | n + 1, t, ty, h => by
  have hf : ∀ (l : List Field) (u : Ty), tyFields (tyOf P n) l = some u → u.pure = true := by
   intro l
   induction l with
   | nil => intro u h; obtain rfl := Option.some.inj h; rfl
   | cons x l ih =>
    intro u h
    simp only [tyFields] at h
    cases h1 : tyOf P n x.type with
    | none => rw [h1] at h; cases h
    | some t1 =>
     cases h2 : tyFields (tyOf P n) l with
     | none => rw [h1, h2] at h; cases h
     | some t2 =>
      rw [h1, h2] at h
      obtain rfl := Option.some.inj h
      simp [Ty.pure, tyOf_pure P n _ _ h1, ih t2 h2]
  unfold tyOf at h
  split at h
  ·obtain rfl := Option.some.inj h; rfl
  ·obtain rfl := Option.some.inj h; rfl
  ·obtain rfl := Option.some.inj h; rfl
  ·rename_i fs _
   cases h1 : tyFields (tyOf P n) fs.toList with
   | none => rw [h1] at h; cases h
   | some u => rw [h1] at h; obtain rfl := Option.some.inj h; exact hf _ u h1
  ·rename_i m e _
   cases h1 : tyOf P n e with
   | none => rw [h1] at h; cases h
   | some u => rw [h1] at h; obtain rfl := Option.some.inj h; exact tyOf_pure P n e u h1
  ·rename_i e _
   cases h1 : tyOf P n e with
   | none => rw [h1] at h; cases h
   | some u => rw [h1] at h; obtain rfl := Option.some.inj h; exact tyOf_pure P n e u h1
  ·obtain rfl := Option.some.inj h; rfl
  ·obtain rfl := Option.some.inj h; rfl
  ·cases h

theorem zeroD_ok {P : Program} {w : World} {B : Nat → Prop} {t : TypeId} {d : Dyn} (h : zeroD P t = some d) :
  d.ty.pure = true ∧ ∃ z, (P.info? t).bind (·.zero) = some z ∧ Rel w B d.ty d.val z.cells.toList [] := by
 unfold zeroD at h
 cases h1 : tyId P t with
 | none => rw [h1] at h; cases h
 | some ty =>
  cases h2 : (P.info? t).bind (·.zero) with
  | none => rw [h1, h2] at h; cases h
  | some z =>
   rw [h1, h2] at h
   simp only [Option.bind_some] at h
   split at h
   ·rename_i hz
    obtain rfl := Option.some.inj h
    exact ⟨tyOf_pure P 12 t ty h1, z, rfl, isZ_all hz⟩
   ·cases h

theorem cstD_ok {P : Program} {w : World} {B : Nat → Prop} {t : TypeId} {c : Value} {d : Dyn} (h : cstD P t c = some d) : d.ty.pure = true ∧ VR w B d.ty d.val c [] := by
 cases c with
 | int k n =>
  simp only [cstD] at h
  split at h
  ·obtain rfl := Option.some.inj h; exact ⟨rfl, ⟨rfl, by assumption, rfl⟩, rfl⟩
  ·cases h
 | bool b => obtain rfl := Option.some.inj h; exact ⟨rfl, ⟨rfl, rfl⟩, rfl⟩
 | string s =>
  simp only [cstD] at h
  split at h
  ·obtain rfl := Option.some.inj h; exact ⟨rfl, ⟨s, rfl, rfl, by unfold maxLen; omega, rfl⟩, rfl⟩
  ·cases h
 | slice a len cap =>
  unfold cstD at h
  split at h <;> try (simp at *; done)
  ·rename_i heq; cases heq
   cases h1 : tyId P t with
   | none => rw [h1] at h; cases h
   | some ty =>
    rw [h1] at h
    simp only [Option.bind_some] at h
    split at h
    ·obtain rfl := Option.some.inj h
     exact ⟨tyOf_pure P 12 t _ h1, ⟨rfl, rfl⟩, rfl⟩
    ·cases h
  all_goals cases h
 | pointer a =>
  cases a with
  | none => obtain rfl := Option.some.inj h; exact ⟨rfl, ⟨rfl, rfl⟩, rfl⟩
  | some a => cases h
 | nilIface => obtain rfl := Option.some.inj h; exact ⟨rfl, ⟨rfl, rfl⟩, rfl⟩
 | agg cs =>
  simp only [cstD] at h
  cases h1 : tyId P t with
  | none => rw [h1] at h; cases h
  | some ty =>
   rw [h1] at h
   simp only [Option.bind_some] at h
   split at h
   ·rename_i hz
    split at h
    ·rename_i hagg
     obtain rfl := Option.some.inj h
     exact ⟨tyOf_pure P 12 t _ h1, isZ_all hz, hagg.symm⟩
    ·cases h
   ·cases h
 | _ => cases h

theorem fix_ok {st : St} {a : Act} {w : World} {B : Nat → Prop} {G : Nat → PG} {P : Program} {t : TypeId} {e e' : EV} {v : Value}
  (he : EVR (tv a) w B G (look st) e v) (hf : e.fix P t = some e') : EVR (tv a) w B G (look st) e' v := by
 cases e with
 | cst c =>
  simp only [EV.fix] at hf
  cases hc : cstD P t c with
  | none => rw [hc] at hf; cases hf
  | some d =>
   rw [hc] at hf
   obtain rfl := Option.some.inj hf
   simp only [EVR] at he ⊢
   subst he
   exact cstD_ok hc
 | _ => obtain rfl := Option.some.inj hf; exact he

def Does (X : Cx) (st : St) (a : Act) (w : World) (o : Oper) (ev : EV) (U : Upds) : Prop :=
 ∀ (next : Act → World → Prop) (Q : Exit → Act → World → Prop),
  (∀ v w' B' G', Inv X (applyU U st) a w' B' G' → EVR (tv a) w' B' G' (look (applyU U st)) ev v → next (a.put o.dst v) w') → o.wp X.P a w next Q

theorem Does.value {X : Cx} {st : St} {a : Act} {w w' : World} {B : Nat → Prop} {G : Nat → PG} {o : Oper} {ev : EV} {U : Upds} {v : Value}
  (hr : (execOp a.eval o).run X.P w = .ok (.value v) w') (hI : Inv X (applyU U st) a w' B G) (hv : EVR (tv a) w' B G (look (applyU U st)) ev v) : Does X st a w o ev U := by
 intro next Q h
 unfold Oper.wp
 rw [hr]
 exact h v w' B G hI hv

theorem Does.skip {X : Cx} {st : St} {a : Act} {w w' : World} {B : Nat → Prop} {G : Nat → PG} {o : Oper} {U : Upds}
  (hr : (execOp a.eval o).run X.P w = .ok .skip w') (hI : Inv X (applyU U st) a w' B G) : Does X st a w o .dead U := by
 intro next Q h
 unfold Oper.wp
 rw [hr]
 exact h undef w' B G hI (by simp only [EVR])

def EOk (X : Cx) (st : St) (a : Act) (w : World) (B : Nat → Prop) (G : Nat → PG) (E : Operand → Option EV) : Prop :=
 ∀ z e, E z = some e → EVR (tv a) w B G (look st) e (a.eval z)

section quiet
variable {X : Cx} {st : St} {a : Act} {w : World} {B : Nat → Prop} {G : Nat → PG} {E : Operand → Option EV}

theorem op_move (h : Inv X st a w B G) (hE : EOk X st a w B G E) {o : Oper} {x : Operand} (ho : o.op = .move x ∨ o.op = .assign x) {e e' : EV} (he : E x = some e) (hf : e.fix X.P o.type = some e') :
  Does X st a w o e' [] := by
 refine Does.value (v := a.eval x) ?_ h (fix_ok (hE x e he) hf)
 rcases ho with ho | ho <;> simp [execOp, ho]

theorem alias_ok {z : Operand} {e : EV} {v : Value} (he : EVR (tv a) w B G (look st) e v) (hz : ∀ t, z = .tmp t → tv a t = v) : EVR (tv a) w B G (look st) (aliasOf z e) v := by
 unfold aliasOf
 split
 ·rename_i t u a' r x
  simp only [EVR] at he ⊢
  exact ⟨he, fun _ => hz t rfl, fun h => by cases h⟩
 ·exact he

theorem op_moveA (h : Inv X st a w B G) (hE : EOk X st a w B G E) {o : Oper} {x : Operand} (ho : o.op = .move x) {e e' : EV} (he : E x = some e) (hf : e.fix X.P o.type = some e') :
  Does X st a w o (aliasOf x e') [] := by
 refine Does.value (v := a.eval x) ?_ h (alias_ok (fix_ok (hE x e he) hf) fun t ht => by subst ht; rfl)
 simp [execOp, ho]

theorem bool_ok (h : Inv X st a w B G) {e : EV} {v : Value} {b : Bool} (he : EVR (tv a) w B G (look st) e v) (hr : e.rd (look st) = some ⟨.bool, some b⟩) : v = .bool b := by
 obtain ⟨F, hR, ha⟩ := rd_ok h he hr
 exact cells_one hR.1 ha

theorem val_ok (h : Inv X st a w B G) {e : EV} {v : Value} {t : Ty} {x : T t} (he : EVR (tv a) w B G (look st) e v) (hr : e.rd (look st) = some ⟨t, some x⟩) (hp : t.pure = true) :
  EVR (tv a) w B G (look st) (.val ⟨t, x⟩) v := by
 obtain ⟨F, hR⟩ := rd_ok h he hr
 have := Rel_pure w B t x _ F hp hR.1
 subst this
 simp only [EVR]
 exact ⟨hp, hR⟩

theorem op_pick (h : Inv X st a w B G) (hE : EOk X st a w B G E) {o : Oper} {c x y : Operand} (ho : o.op = .pick c x y) {ec ex ey ex' ey' : EV} {b : Bool} {t : Ty} {vx vy : T t}
  (hc : E c = some ec) (hc' : ec.rd (look st) = some ⟨.bool, some b⟩) (hx : b = true → EVR (tv a) w B G (look st) ex (a.eval x)) (hxf : ex.fix X.P o.type = some ex') (hxr : ex'.rd (look st) = some ⟨t, some vx⟩)
  (hy : b = false → EVR (tv a) w B G (look st) ey (a.eval y)) (hyf : ey.fix X.P o.type = some ey') (hyr : ey'.rd (look st) = some ⟨t, some vy⟩) (hp : t.pure = true) :
  Does X st a w o (.val ⟨t, bif b then vx else vy⟩) [] := by
 have hb := bool_ok h (hE c ec hc) hc'
 refine Does.value (v := if b then a.eval x else a.eval y) ?_ h ?_
 ·simp [execOp, ho, hb, asBool]
 ·cases b with
  | true => exact val_ok h (fix_ok (hx rfl) hxf) hxr hp
  | false => exact val_ok h (fix_ok (hy rfl) hyf) hyr hp

theorem op_pickR (h : Inv X st a w B G) (hE : EOk X st a w B G E) {o : Oper} {c x y : Operand} (ho : o.op = .pick c x y) {ec ey ey' : EV} {b : Bool} {t : Ty} {vy : T t}
  (hc : E c = some ec) (hc' : ec.rd (look st) = some ⟨.bool, some b⟩) (want : Bool) (hy : b = want → EVR (tv a) w B G (look st) ey (a.eval (bif want then x else y))) (hyf : ey.fix X.P o.type = some ey') (hyr : ey'.rd (look st) = some ⟨t, some vy⟩) (hp : t.pure = true) (hb : b = want) :
  Does X st a w o (.val ⟨t, vy⟩) [] := by
 have hb' := bool_ok h (hE c ec hc) hc'
 refine Does.value (v := if b then a.eval x else a.eval y) ?_ h ?_
 ·simp [execOp, ho, hb', asBool]
 ·have := val_ok h (fix_ok (hy hb) hyf) hyr hp
  subst hb
  cases b with
  | true => exact this
  | false => exact this

theorem sizeOk_info {P : Program} {t : TypeId} {ty : Ty} (h : sizeOk P t ty = true) : ∃ i, P.info? t = some i ∧ i.size = ty.size ∧ ∃ d, P.underlying t = some d ∧ (match d with | .struct _ => ty.isAgg = true | .array _ _ => ty.isAgg = true | _ => ty.isAgg = false ∧ ty.size = 1) := by
 unfold sizeOk at h
 split at h
 ·rename_i i hi
  simp only [Bool.and_eq_true] at h
  refine ⟨i, hi, Nat.eq_of_beq_eq_true h.1, ?_⟩
  have h2 := h.2
  split at h2
  ·rename_i d hd; exact ⟨_, hd, h2⟩
  ·rename_i d1 d2 hd; exact ⟨_, hd, h2⟩
  ·rename_i d hn1 hn2 hd
   simp only [Bool.and_eq_true, Bool.not_eq_true'] at h2
   refine ⟨d, hd, ?_⟩
   split
   ·exact absurd rfl (hn1 _)
   ·exact absurd rfl (hn2 _ _)
   ·exact ⟨h2.1, Nat.eq_of_beq_eq_true h2.2⟩
  ·cases h2
 ·cases h

theorem run_sizeOf {P : Program} {t : TypeId} {ty : Ty} (h : sizeOk P t ty = true) (w : World) : (sizeOf t).run P w = .ok ty.size w := by
 obtain ⟨i, hi, hs, _⟩ := sizeOk_info h
 simp [Go.sizeOf, typeInfo, hi, hs]

theorem run_isAgg {P : Program} {t : TypeId} {ty : Ty} (h : sizeOk P t ty = true) (w : World) : (isAgg t).run P w = .ok ty.isAgg w := by
 obtain ⟨i, hi, hs, d, hd, hm⟩ := sizeOk_info h
 unfold Go.isAgg underlying
 simp only [Sem.run_bind, run_program, Result.andThen_ok, hd, Sem.run_pure]
 split at hm
 ·simp [hm]
 ·simp [hm]
 ·rename_i hn1 hn2
  cases d <;> first | exact absurd rfl (hn1 _) | exact absurd rfl (hn2 _ _) | simp [hm.1]

theorem run_loadVar {P : Program} {t : TypeId} {ty : Ty} (h : sizeOk P t ty = true) {w : World} {b o : Nat} {cs : List Value} (hr : Rows w b o cs) (hl : cs.length = ty.size) (hp : ∀ c ∈ cs, Value.plain? c = true) :
  ∃ v, (loadVar t ⟨b, o, none⟩).run P w = .ok v w ∧ v.cells.toList = cs ∧ Value.agg? v = ty.isAgg := by
 obtain ⟨i, hi, hs, d, hd, hm⟩ := sizeOk_info h
 unfold loadVar
 simp only [Sem.run_bind, run_isAgg h, Result.andThen_ok]
 cases ha : ty.isAgg with
 | true =>
  have hc := run_loadCells_list (P := P) w ⟨b, o, none⟩ cs (fun j v hv => by
   have := hr j v hv
   simp only [Addr.add]
   split
   ·rename_i h0; subst h0; simpa using this
   ·exact this)
  refine ⟨.agg cs.toArray, ?_, by simp [Value.cells], rfl⟩
  simp [run_sizeOf h, ← hl, hc]
 | false =>
  have h1 : ty.size = 1 := by
   split at hm
   ·rw [ha] at hm; cases hm
   ·rw [ha] at hm; cases hm
   ·exact hm.2
  rw [h1] at hl
  obtain ⟨c, rfl⟩ := List.length_eq_one_iff.1 hl
  have := hr 0 c rfl
  refine ⟨c, by simp at this; simp [this], ?_, ?_⟩
  ·have hc := hp c (by simp)
   cases c <;> first | rfl | (simp [Value.plain?] at hc)
  ·have hc := hp c (by simp)
   cases c <;> first | rfl | (simp [Value.plain?] at hc)

end quiet
end
end Go.Pv

namespace Go.Pv
noncomputable section

theorem bytes_inj {a b : ByteArray} : bytesOf a = bytesOf b ↔ a = b := by
 constructor
 ·intro h
  have key : ∀ (l m : List UInt8), (l.map fun b => (b.toNat : Int)) = (m.map fun b => (b.toNat : Int)) → l = m := by
   intro l
   induction l with
   | nil => intro m h; cases m with | nil => rfl | cons _ _ => simp at h
   | cons x l ih =>
    intro m h
    cases m with
    | nil => simp at h
    | cons y m =>
     simp only [List.map_cons, List.cons.injEq] at h
     obtain ⟨h1, h2⟩ := h
     have : x = y := UInt8.toNat_inj.1 (by omega)
     rw [this, ih m h2]
  have := key _ _ h
  obtain ⟨⟨x⟩⟩ := a
  obtain ⟨⟨y⟩⟩ := b
  simp only at this
  rw [this]
 ·rintro rfl; rfl

theorem str_eq (b c : ByteArray) : (b.toList == c.toList) = decide (bytesOf b = bytesOf c) := by
 rw [Bool.eq_iff_iff, ByteArray.toList_eq, ByteArray.toList_eq, beq_iff_eq, decide_eq_true_eq]
 constructor
 ·intro h; unfold bytesOf; rw [h]
 ·intro h; rw [bytes_inj.1 h]

theorem run_part {P : Program} {t : TypeId} {ty : Ty} (h : sizeOk P t ty = true) {w : World} {cs pre mid post : List Value} (hc : cs = pre ++ mid ++ post) (hl : mid.length = ty.size) (hp : ∀ c ∈ mid, Value.plain? c = true) :
  ∃ v, (part t cs.toArray pre.length).run P w = .ok v w ∧ v.cells.toList = mid ∧ Value.agg? v = ty.isAgg := by
 unfold part
 simp only [Sem.run_bind, run_isAgg h, Result.andThen_ok]
 obtain ⟨i, hi, hs, d, hd, hm⟩ := sizeOk_info h
 cases ha : ty.isAgg with
 | true =>
  refine ⟨.agg mid.toArray, ?_, by simp [Value.cells], rfl⟩
  subst hc
  simp [run_sizeOf h, ← hl, List.extract_eq_take_drop]
 | false =>
  have h1 : ty.size = 1 := by
   split at hm
   ·rw [ha] at hm; cases hm
   ·rw [ha] at hm; cases hm
   ·exact hm.2
  rw [h1] at hl
  obtain ⟨c, rfl⟩ := List.length_eq_one_iff.1 hl
  subst hc
  have hc := hp c (by simp)
  refine ⟨c, by simp, ?_, ?_⟩
  ·cases c <;> first | rfl | (simp [Value.plain?] at hc)
  ·cases c <;> first | rfl | (simp [Value.plain?] at hc)

theorem run_eqItems {P : Program} {w : World} {B : Nat → Prop} {e : TypeId} {e' : Ty} (hs : sizeOk P e e' = true) {g : T e' → T e' → Bool} {d : Nat}
  (hg : ∀ (x y : T e') (v u : Value) F F', VR w B e' x v F → VR w B e' y u F' → (Op.equalIn d e v u).run P w = .ok (g x y) w) :
  ∀ (xs ys : List (T e')) (cs ds pre pre' : List Value) F F', xs.length = ys.length → RelL (Rel w B e') xs cs F → RelL (Rel w B e') ys ds F' → ∀ j, pre.length = j * e'.size → pre'.length = j * e'.size →
   (Op.eqItems d e e'.size (pre ++ cs).toArray (pre' ++ ds).toArray (List.range' j xs.length)).run P w = .ok (eqLs g xs ys) w
 | [], [], _, _, _, _, _, _, _, _, _, j, _, _ => by simp [Op.eqItems, eqLs]
 | x :: xs, y :: ys, _, _, pre, pre', _, _, hl, ⟨c1, c2, F1, F2, hc, _, h1, h2⟩, ⟨d1, d2, F1', F2', hd, _, k1, k2⟩, j, hj, hj' => by
  subst hc; subst hd
  have l1 := Rel_length w B _ _ _ _ h1
  have l2 := Rel_length w B _ _ _ _ k1
  obtain ⟨v, p1, p2, p3⟩ := run_part (w := w) hs (cs := pre ++ (c1 ++ c2)) (pre := pre) (mid := c1) (post := c2) (by simp) l1 (Rel_plain w B _ _ _ _ h1)
  obtain ⟨u, q1, q2, q3⟩ := run_part (w := w) hs (cs := pre' ++ (d1 ++ d2)) (pre := pre') (mid := d1) (post := d2) (by simp) l2 (Rel_plain w B _ _ _ _ k1)
  rw [hj] at p1
  rw [hj'] at q1
  have hgv := hg x y v u F1 F1' ⟨by rw [p2]; exact h1, p3⟩ ⟨by rw [q2]; exact k1, q3⟩
  simp only [List.length_cons, List.range'_succ, Op.eqItems, Sem.run_bind, p1, q1, Result.andThen_ok, hgv]
  have ih := run_eqItems hs hg xs ys c2 d2 (pre ++ c1) (pre' ++ d1) F2 F2' (by simpa using hl) h2 k2 (j + 1) (by simp [hj, l1, Nat.add_mul]) (by simp [hj', l2, Nat.add_mul])
  cases hb : g x y with
  | false => simp [eqLs, hb]
  | true =>
   simp only [Bool.not_true, Bool.false_eq_true, if_false, eqLs, hb, Bool.true_and]
   simpa using ih
 | [], _ :: _, _, _, _, _, _, _, hl, _, _, _, _, _ => by simp at hl
 | _ :: _, [], _, _, _, _, _, _, hl, _, _, _, _, _ => by simp at hl

theorem run_eqFields {P : Program} {w : World} {B : Nat → Prop} {f : TypeId → (t : Ty) → Option (T t → T t → Bool)} {d : Nat}
  (hf : ∀ (t : TypeId) (ty : Ty) (g : T ty → T ty → Bool), f t ty = some g → ∀ (x y : T ty) (v u : Value) F F', VR w B ty x v F → VR w B ty y u F' → (Op.equalIn d t v u).run P w = .ok (g x y) w) :
  ∀ (fs : List Field) (off : Nat) (c : Ty) (g : T c → T c → Bool), eqFs P f fs off c = some g → ∀ (x y : T c) (cs ds pre pre' : List Value) F F', Rel w B c x cs F → Rel w B c y ds F' → pre.length = off → pre'.length = off →
   (Op.eqFields d (pre ++ cs).toArray (pre' ++ ds).toArray fs).run P w = .ok (g x y) w := by
 intro fs
 induction fs with
 | nil =>
  intro off c g hg x y cs ds pre pre' F F' hx hy h1 h2
  cases c with
  | unit => simp only [eqFs, Option.some.injEq] at hg; subst hg; simp [Op.eqFields]
  | _ => simp [eqFs] at hg
 | cons fd fs ih =>
  intro off c g hg x y cs ds pre pre' F F' hx hy h1 h2
  cases c with
  | pair ta tb =>
   have hgen : ∃ ga gb, f fd.type ta = some ga ∧ eqFs P f fs (off + ta.size) tb = some gb ∧ (decide (fd.name ≠ "_") && Nat.beq fd.offset off && sizeOk P fd.type ta) = true ∧ ∀ p q, g p q = (ga p.1 q.1 && gb p.2 q.2) := by
    unfold eqFs at hg
    split at hg
    ·rename_i hc
     split at hg
     ·cases hfa : f fd.type ta with
      | none => rw [hfa] at hg; cases hg
      | some ga =>
       rw [hfa] at hg
       obtain rfl := Option.some.inj hg
       exact ⟨ga, fun _ _ => true, rfl, rfl, hc, fun p q => by simp⟩
     ·cases hfa : f fd.type ta with
      | none => rw [hfa] at hg; cases hg
      | some ga =>
       rw [hfa] at hg
       simp only [Option.bind_some] at hg
       cases hfb : eqFs P f fs (off + ta.size) tb with
       | none => rw [hfb] at hg; cases hg
       | some gb =>
        rw [hfb] at hg
        obtain rfl := Option.some.inj hg
        exact ⟨ga, gb, rfl, rfl, hc, fun p q => rfl⟩
    ·cases hg
   obtain ⟨ga, gb, hga, hgb, hc, hgg⟩ := hgen
   simp only [Bool.and_eq_true, decide_eq_true_eq] at hc
   obtain ⟨⟨hn, ho⟩, hsz⟩ := hc
   have ho := Nat.eq_of_beq_eq_true ho
   obtain ⟨c1, c2, F1, F2, rfl, _, k1, k2⟩ := hx
   obtain ⟨d1, d2, F1', F2', rfl, _, m1, m2⟩ := hy
   have l1 := Rel_length w B _ _ _ _ k1
   have l2 := Rel_length w B _ _ _ _ m1
   obtain ⟨v, p1, p2, p3⟩ := run_part (w := w) hsz (cs := pre ++ (c1 ++ c2)) (pre := pre) (mid := c1) (post := c2) (by simp) l1 (Rel_plain w B _ _ _ _ k1)
   obtain ⟨u, q1, q2, q3⟩ := run_part (w := w) hsz (cs := pre' ++ (d1 ++ d2)) (pre := pre') (mid := d1) (post := d2) (by simp) l2 (Rel_plain w B _ _ _ _ m1)
   rw [h1, ← ho] at p1
   rw [h2, ← ho] at q1
   have hgv := hf fd.type ta ga hga x.1 y.1 v u F1 F1' ⟨by rw [p2]; exact k1, p3⟩ ⟨by rw [q2]; exact m1, q3⟩
   have ihh := ih (off + ta.size) tb gb hgb x.2 y.2 c2 d2 (pre ++ c1) (pre' ++ d1) F2 F2' k2 m2 (by simp [h1, l1]) (by simp [h2, l2])
   rw [hgg]
   simp only [Op.eqFields, if_pos hn, Sem.run_bind, p1, q1, Result.andThen_ok, hgv]
   cases hb : ga x.1 y.1 with
   | false => simp
   | true => simpa using ihh
  | _ => simp [eqFs] at hg

theorem eqBy_ok {P : Program} {w : World} {B : Nat → Prop} : ∀ (n : Nat) (t : TypeId) (ty : Ty) (g : T ty → T ty → Bool), eqBy P n t ty = some g → ∀ (m : Nat), n ≤ m → ∀ (x y : T ty) (v u : Value) F F', VR w B ty x v F → VR w B ty y u F' →
  (Op.equalIn m t v u).run P w = .ok (g x y) w := by
 intro n
 induction n with
 | zero => intro t ty g hg; cases hg
 | succ n ih =>
  intro t ty g hg m hm x y v u F F' hx hy
  obtain ⟨m, rfl⟩ : ∃ k, m = k + 1 := ⟨m - 1, by omega⟩
  unfold eqBy at hg
  split at hg
  ·rename_i hu
   cases ty <;> simp at hg
   subst hg
   obtain rfl := cells_one hx.1.1 hx.2
   obtain rfl := cells_one hy.1.1 hy.2
   rw [run_equalIn_bool' w m t _ _ hu]
   rfl
  ·rename_i k hu
   cases ty <;> simp at hg
   subst hg
   obtain rfl := cells_one hx.1.1 hx.2
   obtain rfl := cells_one hy.1.1 hy.2
   rw [run_equalIn_int w m t _ _ _ _ hu]
   rfl
  ·rename_i hu
   cases ty <;> simp at hg
   subst hg
   obtain ⟨b, h1, h2, _⟩ := hx.1
   obtain ⟨c, k1, k2, _⟩ := hy.1
   obtain rfl := cells_one h1 hx.2
   obtain rfl := cells_one k1 hy.2
   rw [run_equalIn_string w m t _ _ hu]
   subst h2; subst k2
   rw [str_eq]
  ·rename_i fs hu
   cases ty <;> simp at hg
   rename_i c
   obtain ⟨hp, hg⟩ := hg
   obtain ⟨cs, rfl⟩ := cells_agg hx.2
   obtain ⟨ds, rfl⟩ := cells_agg hy.2
   have hf : P.fieldsOf t = fs := by simp [Program.fieldsOf, hu]
   rw [run_equalIn_struct w m t cs ds (by rw [hf]; exact hu) hp, hf]
   have := run_eqFields (w := w) (B := B) (d := m) (fun t ty g h x y v u F F' hx hy => ih t ty g h m (by omega) x y v u F F' hx hy) fs.toList 0 c g hg x y cs.toList ds.toList [] [] F F' hx.1 hy.1 rfl rfl
   simpa using this
  ·rename_i l e hu
   cases ty <;> simp at hg
   rename_i c
   cases c <;> simp at hg
   rename_i l' e'
   obtain ⟨⟨h1, h2⟩, g', hg', rfl⟩ := hg
   obtain rfl : l = l' := by simpa using h1
   obtain ⟨cs, rfl⟩ := cells_agg hx.2
   obtain ⟨ds, rfl⟩ := cells_agg hy.2
   obtain ⟨i, hi, hs, _⟩ := sizeOk_info h2
   rw [run_equalIn_array w m cs ds hu hi]
   have hc : P.cellsOf e = e'.size := by simp [Program.cellsOf, hi, hs]
   obtain ⟨hl1, hx⟩ := hx.1
   obtain ⟨hl2, hy⟩ := hy.1
   have := run_eqItems (P := P) (w := w) (B := B) (d := m) h2 (fun x y v u F F' hx hy => ih e e' g' hg' m (by omega) x y v u F F' hx hy) x y cs.toList ds.toList [] [] F F' (hl1.trans hl2.symm) hx hy 0 (by simp) (by simp)
   rw [hc, List.range_eq_range', ← hl1]
   simpa using this
  ·cases hg

end
end Go.Pv

namespace Go.Pv
noncomputable section

theorem inR_iff (k : IntKind) (n : Int) : inR k n = true ↔ k.min ≤ n ∧ n ≤ k.max := by
 unfold inR; simp

theorem wrap_inR (k : IntKind) (n : Int) : inR k (k.wrap n) = true := by
 rw [inR_iff]
 cases k <;> simp only [IntKind.min, IntKind.max, IntKind.wrap, IntKind.signed, IntKind.bits] <;> simp <;> omega

theorem tmod_inR (k : IntKind) (x y : Int) (h : inR k x = true) : inR k (x.tmod y) = true := by
 rw [inR_iff] at h ⊢
 have h1 : (x.tmod y).natAbs ≤ x.natAbs := by rw [Int.natAbs_tmod]; exact Nat.mod_le _ _
 have h2 : 0 ≤ x → 0 ≤ x.tmod y := fun h => Int.tmod_nonneg y h
 have h3 : x ≤ 0 → x.tmod y ≤ 0 := by
  intro h
  have := Int.tmod_nonneg y (a := -x) (by omega)
  rw [Int.neg_tmod] at this
  omega
 cases k <;> simp only [IntKind.min, IntKind.max, IntKind.signed, IntKind.bits] at h ⊢ <;> simp at h ⊢ <;> omega

theorem fdiv_inR (k : IntKind) (x : Int) (n : Nat) (h : inR k x = true) : inR k (x.fdiv (2 ^ n)) = true := by
 rw [inR_iff] at h ⊢
 have hp : (0 : Int) < 2 ^ n := Int.pow_pos (by decide)
 rw [Int.fdiv_eq_ediv_of_nonneg _ (by omega)]
 generalize (2 : Int) ^ n = d at hp
 have h1 : 0 ≤ x → 0 ≤ x / d ∧ x / d ≤ x := fun h => ⟨Int.ediv_nonneg h (by omega), Int.ediv_le_self d h⟩
 have h2 : x < 0 → x ≤ x / d ∧ x / d < 0 := by
  intro h
  refine ⟨?_, Int.ediv_neg_of_neg_of_pos h hp⟩
  rw [Int.le_ediv_iff_mul_le hp]
  have : x * d ≤ x * 1 := Int.mul_le_mul_of_nonpos_left (by omega) (by omega)
  omega
 by_cases hx : 0 ≤ x
 ·have := h1 hx
  cases k <;> simp only [IntKind.min, IntKind.max, IntKind.signed, IntKind.bits] at h ⊢ <;> simp at h ⊢ <;> omega
 ·have := h2 (by omega)
  cases k <;> simp only [IntKind.min, IntKind.max, IntKind.signed, IntKind.bits] at h ⊢ <;> simp at h ⊢ <;> omega

theorem len_inR {n : Nat} (h : n ≤ maxLen) : inR .i64 (n : Int) = true := by
 rw [inR_iff]
 simp only [maxLen] at h
 simp only [IntKind.min, IntKind.max, IntKind.signed, IntKind.bits]
 simp
 omega

theorem byte_inR (b : UInt8) : inR .u8 (b.toNat : Int) = true := by
 rw [inR_iff]
 have := b.toNat_lt
 simp only [IntKind.min, IntKind.max, IntKind.signed, IntKind.bits]
 simp
 omega

theorem run_eqGuard_plain {P : Program} {w : World} (op : BinOp) (t : TypeId) (x y : Operand) (a b : Value) (h1 : a ≠ .nilIface ∨ b ≠ .nilIface) (h2 : Value.agg? a = false ∨ Value.agg? b = false) :
  (eqGuard op t x y a b).run P w = .ok () w := by
 unfold eqGuard
 cases op <;> first
  | rfl
  | (cases a <;> cases b <;> first | rfl | (simp at h1; done) | (simp [Value.agg?] at h2; done))

theorem intOp_ok {P : Program} {w : World} {op : BinOp} {k : IntKind} {m n : Int} {d : ODyn} {v : T d.ty} (hm : inR k m = true) (hn : inR k n = true) (h : intOp op k m n = some d) (hv : d.val = some v) (t : TypeId) :
  ∃ u, (Go.binOp op t (.int k m) (.int k n)).run P w = .ok u w ∧ d.ty.pure = true ∧ ∀ B, VR w B d.ty v u [] := by
 have hk : ¬ k ≠ k := fun h => h rfl
 cases op <;> simp only [intOp, Option.some.injEq] at h <;> first | (cases h; done) | skip
 all_goals subst h
 case add => obtain rfl := Option.some.inj hv; exact ⟨.int k (k.wrap (m + n)), by simp [Go.binOp, Op.intArith], rfl, fun B => ⟨⟨rfl, wrap_inR k _, rfl⟩, rfl⟩⟩
 case sub => obtain rfl := Option.some.inj hv; exact ⟨.int k (k.wrap (m - n)), by simp [Go.binOp, Op.intArith], rfl, fun B => ⟨⟨rfl, wrap_inR k _, rfl⟩, rfl⟩⟩
 case mul => obtain rfl := Option.some.inj hv; exact ⟨.int k (k.wrap (m * n)), by simp [Go.binOp, Op.intArith], rfl, fun B => ⟨⟨rfl, wrap_inR k _, rfl⟩, rfl⟩⟩
 case quo =>
  simp only [quoI] at hv
  split at hv
  ·cases hv
  ·rename_i h0
   obtain rfl := Option.some.inj hv
   exact ⟨.int k (k.wrap (m.tdiv n)), by simp [Go.binOp, Op.intDiv, h0], rfl, fun B => ⟨⟨rfl, wrap_inR k _, rfl⟩, rfl⟩⟩
 case rem =>
  simp only [remI] at hv
  split at hv
  ·cases hv
  ·rename_i h0
   obtain rfl := Option.some.inj hv
   exact ⟨.int k (m.tmod n), by simp [Go.binOp, Op.intDiv, h0], rfl, fun B => ⟨⟨rfl, tmod_inR k m n hm, rfl⟩, rfl⟩⟩
 case and => obtain rfl := Option.some.inj hv; exact ⟨.int k (bitsI .and k m n), by simp [Go.binOp, Op.intBits, bitsI], rfl, fun B => ⟨⟨rfl, wrap_inR k _, rfl⟩, rfl⟩⟩
 case or => obtain rfl := Option.some.inj hv; exact ⟨.int k (bitsI .or k m n), by simp [Go.binOp, Op.intBits, bitsI], rfl, fun B => ⟨⟨rfl, wrap_inR k _, rfl⟩, rfl⟩⟩
 case xor => obtain rfl := Option.some.inj hv; exact ⟨.int k (bitsI .xor k m n), by simp [Go.binOp, Op.intBits, bitsI], rfl, fun B => ⟨⟨rfl, wrap_inR k _, rfl⟩, rfl⟩⟩
 case andNot => obtain rfl := Option.some.inj hv; exact ⟨.int k (bitsI .andNot k m n), by simp [Go.binOp, Op.intBits, bitsI], rfl, fun B => ⟨⟨rfl, wrap_inR k _, rfl⟩, rfl⟩⟩
 case eql => obtain rfl := Option.some.inj hv; exact ⟨.bool (decide (m = n)), by simp [Go.binOp, Op.intCmp]; rfl, rfl, fun B => ⟨⟨rfl, rfl⟩, rfl⟩⟩
 case neq => obtain rfl := Option.some.inj hv; exact ⟨.bool (!decide (m = n)), by simp [Go.binOp, Op.intCmp]; rfl, rfl, fun B => ⟨⟨rfl, rfl⟩, rfl⟩⟩
 case lss => obtain rfl := Option.some.inj hv; exact ⟨.bool (decide (m < n)), by simp [Go.binOp, Op.intCmp], rfl, fun B => ⟨⟨rfl, rfl⟩, rfl⟩⟩
 case leq => obtain rfl := Option.some.inj hv; exact ⟨.bool (decide (m ≤ n)), by simp [Go.binOp, Op.intCmp], rfl, fun B => ⟨⟨rfl, rfl⟩, rfl⟩⟩
 case gtr => obtain rfl := Option.some.inj hv; exact ⟨.bool (decide (m > n)), by simp [Go.binOp, Op.intCmp], rfl, fun B => ⟨⟨rfl, rfl⟩, rfl⟩⟩
 case geq => obtain rfl := Option.some.inj hv; exact ⟨.bool (decide (m ≥ n)), by simp [Go.binOp, Op.intCmp], rfl, fun B => ⟨⟨rfl, rfl⟩, rfl⟩⟩

theorem shift_ok {P : Program} {w : World} {k k' : IntKind} {m n z : Int} (hm : inR k m = true) (t : TypeId) :
  (shlI k m n = some z → (Go.binOp .shl t (.int k m) (.int k' n)).run P w = .ok (.int k z) w ∧ inR k z = true) ∧
  (shrI k m n = some z → (Go.binOp .shr t (.int k m) (.int k' n)).run P w = .ok (.int k z) w ∧ inR k z = true) := by
 constructor
 ·intro h
  simp only [shlI] at h
  split at h
  ·cases h
  ·rename_i h0
   obtain rfl := Option.some.inj h
   exact ⟨by simp [Go.binOp, Op.shift, h0], wrap_inR k _⟩
 ·intro h
  simp only [shrI] at h
  split at h
  ·cases h
  ·rename_i h0
   obtain rfl := Option.some.inj h
   exact ⟨by simp [Go.binOp, Op.shift, h0], fdiv_inR k m _ hm⟩

theorem bytesOf_length (s : ByteArray) : (bytesOf s).length = s.size := by unfold bytesOf; rw [List.length_map, Array.length_toList]; rfl

theorem ltB_ok : ∀ (x y : List UInt8), Op.bytesLess x y = ltB (x.map fun b => (b.toNat : Int)) (y.map fun b => (b.toNat : Int))
 | [], [] => rfl
 | _ :: _, [] => rfl
 | [], _ :: _ => rfl
 | a :: x, b :: y => by
  simp only [Op.bytesLess, List.map_cons, ltB, ltB_ok x y]
  have h1 : decide (a < b) = decide ((a.toNat : Int) < (b.toNat : Int)) := by
   rw [decide_eq_decide]; rw [UInt8.lt_iff_toNat_lt]; omega
  have h2 : (a == b) = decide ((a.toNat : Int) = (b.toNat : Int)) := by
   rw [Bool.eq_iff_iff, beq_iff_eq, decide_eq_true_eq, ← UInt8.toNat_inj]; omega
  rw [h2]
  congr 1

theorem strOp_ok {P : Program} {w : World} {op : BinOp} {a b : ByteArray} {d : ODyn} {v : T d.ty} (h : strOp op (bytesOf a) (bytesOf b) = some d) (hv : d.val = some v) (t : TypeId) :
  ∃ u, (Go.binOp op t (.string a) (.string b)).run P w = .ok u w ∧ d.ty.pure = true ∧ ∀ B, VR w B d.ty v u [] := by
 have hlt : Op.bytesLess a.toList b.toList = ltB (bytesOf a) (bytesOf b) := by rw [ltB_ok, ByteArray.toList_eq, ByteArray.toList_eq]; rfl
 have heq := str_eq a b
 cases op <;> simp only [strOp, Option.some.injEq] at h <;> first | (cases h; done) | skip
 all_goals subst h
 case add =>
  simp only [catI] at hv
  split at hv
  ·rename_i hc
   obtain rfl := Option.some.inj hv
   rw [bytesOf_length, bytesOf_length] at hc
   refine ⟨.string (a ++ b), ?_, rfl, fun B => ⟨⟨a ++ b, rfl, ?_, ?_, rfl⟩, rfl⟩⟩
   ·have hm : ¬ ((a.size + b.size : Nat) : Int) > IntKind.i64.max := by
     have h63 : IntKind.i64.max = 9223372036854775807 := by decide
     rw [h63]; omega
    simp only [Go.binOp, Op.stringOp, if_neg hm]
    rfl
   ·simp [bytesOf, ByteArray.data_append]
   ·simp only [maxLen, ByteArray.size_append]; omega
  ·cases hv
 case eql => obtain rfl := Option.some.inj hv; exact ⟨.bool (decide (bytesOf a = bytesOf b)), by simp [Go.binOp, Op.stringOp, heq], rfl, fun B => ⟨⟨rfl, rfl⟩, rfl⟩⟩
 case neq => obtain rfl := Option.some.inj hv; exact ⟨.bool (!decide (bytesOf a = bytesOf b)), by simp [Go.binOp, Op.stringOp, heq], rfl, fun B => ⟨⟨rfl, rfl⟩, rfl⟩⟩
 case lss => obtain rfl := Option.some.inj hv; exact ⟨.bool (ltB (bytesOf a) (bytesOf b)), by simp [Go.binOp, Op.stringOp, hlt], rfl, fun B => ⟨⟨rfl, rfl⟩, rfl⟩⟩
 case leq => obtain rfl := Option.some.inj hv; exact ⟨.bool (ltB (bytesOf a) (bytesOf b) || decide (bytesOf a = bytesOf b)), by simp [Go.binOp, Op.stringOp, hlt, heq], rfl, fun B => ⟨⟨rfl, rfl⟩, rfl⟩⟩
 case gtr => obtain rfl := Option.some.inj hv; exact ⟨.bool (!(ltB (bytesOf a) (bytesOf b) || decide (bytesOf a = bytesOf b))), by simp [Go.binOp, Op.stringOp, hlt, heq], rfl, fun B => ⟨⟨rfl, rfl⟩, rfl⟩⟩
 case geq => obtain rfl := Option.some.inj hv; exact ⟨.bool (!ltB (bytesOf a) (bytesOf b)), by simp [Go.binOp, Op.stringOp, hlt], rfl, fun B => ⟨⟨rfl, rfl⟩, rfl⟩⟩

end
end Go.Pv
