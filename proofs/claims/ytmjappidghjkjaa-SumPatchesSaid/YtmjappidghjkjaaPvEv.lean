/- A plain run of one straight piece of a Go function's code over plain values: what each operation leaves, kind by kind. -/
import Derived.Test.YtmjappidghjkjaaPvTy
namespace Go.Pv
noncomputable section

/-- what a slot holds. val: data that never changes; cst: a constant as it stands; clip: a slice that ends at its capacity; at_: what lies at a place; loc: a pointer to a place; oel: a pointer to an element of a slice that lies, owned, at a place; ref: a pointer to data that never changes; maybe: something if a guard said so. -/
inductive EV where
  | dead
  | val (d : Dyn)
  | cst (v : Value)
  | clip (e : Ty) (xs : List (T e))
  | at_ (n : Nat) (p : Path)
  | loc (n : Nat) (p : Path)
  | oel (n : Nat) (p : Path) (e : Ty) (i : Int) (q : Path)
  | ref (d : Dyn)
  | tup (l : List EV)
  | fn (f : Nat) (caps : List EV)
  | maybe (t : Nat) (want : Bool) (v : EV)

abbrev Env := List (Nat × EV)
abbrev Pl := List (Nat × Dyn)

structure St where
  env : Env
  pl : Pl

def lk {α : Type} (n : Nat) : List (Nat × α) → Option α
  | [] => none
  | (m, a) :: r => bif Nat.beq n m then some a else lk n r

def rmv {α : Type} (n : Nat) : List (Nat × α) → List (Nat × α)
  | [] => []
  | (m, a) :: r => bif Nat.beq n m then rmv n r else (m, a) :: rmv n r

def put {α : Type} (n : Nat) (a : α) (l : List (Nat × α)) : List (Nat × α) := (n, a) :: rmv n l

/-! ### kinds of the program's types, and zero values -/
def tyFields (f : TypeId → Option Ty) : List Field → Option Ty
  | [] => some .unit
  | x :: r => (f x.type).bind fun t => (tyFields f r).map fun u => .pair t u

def tyOf (P : Program) : Nat → TypeId → Option Ty
  | 0, _ => none
  | n + 1, t => match P.underlying t with
    | some .bool => some .bool
    | some (.int k) => some (.int k)
    | some .string => some .str
    | some (.struct fs) => (tyFields (tyOf P n) fs.toList).map .agg
    | some (.array m e) => (tyOf P n e).map fun t => .agg (.arr m t)
    | some (.slice e) => (tyOf P n e).map .nils
    | some (.pointer _) => some .nilp
    | some (.interface _) => some .nili
    | _ => none

/-- is a cell the zero of a kind? -/
def zc : Ty → Value → Bool
  | .int k, v => match v with | .int k' n => decide (k = k') && decide (n = 0) | _ => false
  | .bool, v => match v with | .bool b => !b | _ => false
  | .str, v => match v with | .string s => Nat.beq s.data.size 0 | _ => false
  | .nils _, v => match v with | .slice none 0 0 => true | _ => false
  | .slice _, v => match v with | .slice none 0 0 => true | _ => false
  | .nilp, v => match v with | .pointer none => true | _ => false
  | .ptr _, v => match v with | .pointer none => true | _ => false
  | .nili, v => match v with | .nilIface => true | _ => false
  | .alt _ _ r, v => zc r v
  | _, _ => false

def times {α : Type} (f : α → Option α) : Nat → α → Option α
  | 0, x => some x
  | n + 1, x => (f x).bind (times f n)

/-- does a row of cells begin with the zero value of a kind? what is left of the row -/
def isZ : Ty → List Value → Option (List Value)
  | .unit, r => some r
  | .pair a b, r => (isZ a r).bind (isZ b)
  | .agg a, r => isZ a r
  | .arr n e, r => times (isZ e) n r
  | t, r => match r with
    | [] => none
    | v :: r => bif zc t v then some r else none

def tyId (P : Program) (t : TypeId) : Option Ty := tyOf P 12 t

def zeroD (P : Program) (t : TypeId) : Option Dyn :=
  (tyId P t).bind fun ty => ((P.info? t).bind (·.zero)).bind fun z => match isZ ty z.cells.toList with
    | some [] => some ⟨ty, dflt ty⟩
    | _ => none

def bytesOf (s : ByteArray) : List Int := s.data.toList.map fun b => (b.toNat : Int)

def inR (k : IntKind) (n : Int) : Bool := decide (k.min ≤ n) && decide (n ≤ k.max)

/-- a constant as data -/
def cstD (P : Program) (t : TypeId) : Value → Option Dyn
  | .int k n => if inR k n then some ⟨.int k, n⟩ else none
  | .bool b => some ⟨.bool, b⟩
  | .string s => if s.size ≤ 1000000 then some ⟨.str, bytesOf s⟩ else none
  | .slice none 0 0 => (tyId P t).bind fun ty => match ty with | .nils e => some ⟨.nils e, ()⟩ | _ => none
  | .pointer none => some ⟨.nilp, ()⟩
  | .nilIface => some ⟨.nili, ()⟩
  | .agg cs => (tyId P t).bind fun ty => match isZ ty cs.toList with
    | some [] => if ty.isAgg = true then some ⟨ty, dflt ty⟩ else none
    | _ => none
  | _ => none

def EV.fix (P : Program) (t : TypeId) : EV → Option EV
  | .cst v => (cstD P t v).map .val
  | e => some e

mutual
/-- does a slot speak of a place? hard: pointers count, too -/
def EV.hits (n : Nat) (hard : Bool) : EV → Bool
  | .at_ m _ => Nat.beq n m
  | .oel m _ _ _ _ => Nat.beq n m
  | .loc m _ => hard && Nat.beq n m
  | .tup l => EV.hitsL n hard l
  | .fn _ l => EV.hitsL n hard l
  | .maybe _ _ v => v.hits n hard
  | _ => false
def EV.hitsL (n : Nat) (hard : Bool) : List EV → Bool
  | [] => false
  | x :: r => x.hits n hard || EV.hitsL n hard r
end

/-! ### calls -/
inductive AV where
  | val (d : Dyn) | obj (d : Dyn) | ref (d : Dyn) | fn (f : Nat) (caps : List AV)

inductive RV where
  | val (d : Dyn) | own (d : Dyn) | ptr (d : Dyn)

/-- how a result comes back: data that never changes again; data that is the caller's; a pointer to what is the caller's -/
inductive RK where
  | val (t : Ty) | own (t : Ty) | ptr (t : Ty)

@[reducible] def RK.ty : RK → Ty
  | .val t => t
  | .own t => t
  | .ptr t => t

def RK.rv : (r : RK) → T r.ty → RV
  | .val t, x => .val ⟨t, x⟩
  | .own t, x => .own ⟨t, x⟩
  | .ptr t, x => .ptr ⟨t, x⟩

def RK.ok : RK → Bool
  | .val t => t.pure
  | _ => true

@[reducible] def ResT : List RK → Type
  | [] => Unit
  | r :: l => T r.ty × ResT l

@[reducible] def ObjT : List Ty → Type
  | [] => Unit
  | t :: l => T t × ObjT l

def resD : (l : List RK) → ResT l
  | [] => ()
  | r :: l => (dflt r.ty, resD l)

def objD : (l : List Ty) → ObjT l
  | [] => ()
  | t :: l => (dflt t, objD l)

def resL : (l : List RK) → ResT l → List RV
  | [], _ => []
  | r :: l, x => r.rv x.1 :: resL l x.2

def objsL : (l : List Ty) → ObjT l → List Dyn
  | [], _ => []
  | t :: l, x => ⟨t, x.1⟩ :: objsL l x.2

structure SRes where
  res : List RK
  objs : List Ty
  run : Option (ResT res × ObjT objs)

abbrev CSem := List AV → Option SRes

/-- what becomes of a place: it goes; it is new; its cells are written; its cells stay -/
inductive Upd where
  | del | new (d : Dyn) | set (d : Dyn) | keep (d : Dyn)

abbrev Upds := List (Nat × Upd)

/-- what an operation leaves: its value, and what becomes of places; all this of something that may fail to be there -/
structure Res where
  ev : EV
  upd : Upds := []

structure ORes where
  {α : Type}
  run : Option α
  dflt : α
  out : α → Res

def ORes.just (r : Res) : ORes := ⟨some (), (), fun _ => r⟩

abbrev Look := Nat → Option Dyn

def nameOf (dst i : Nat) : Nat := 2 * (16 * dst + i)
def objName (k : Nat) : Nat := 2 * k + 1

/-- data in a slot, its kind known, itself perhaps not there -/
def EV.rd (L : Look) : EV → Option ODyn
  | .val d => some ⟨d.ty, some d.val⟩
  | .clip e xs => some ⟨.slice e, some xs⟩
  | .at_ n p => (L n).bind fun d => getP ⟨d.ty, some d.val⟩ p
  | _ => none

/-- as above, with nothing owned: what owned it gives it up -/
def EV.take (L : Look) : EV → Option (ODyn × Upds)
  | .val d => some (⟨d.ty, some d.val⟩, [])
  | .clip e xs => some (⟨.slice e, some xs⟩, [])
  | .at_ n p => (L n).bind fun d => (getP ⟨d.ty, some d.val⟩ p).bind fun y =>
      if y.ty.pure then some (y, []) else
      let z : ODyn := ⟨frz y.ty, y.val.map (frzV y.ty)⟩
      if z.ty.pure then (setP ⟨d.ty, some d.val⟩ p z).bind fun d' => match d'.val with
        | some v => some (z, [(n, .keep ⟨d'.ty, v⟩)])
        | none => none
      else none
  | _ => none

/-- as above, with what is owned handed on, where the whole of a place is -/
def EV.mv (L : Look) : EV → Option (ODyn × Upds)
  | .at_ n [] => (L n).bind fun d => if d.ty.pure then some (⟨d.ty, some d.val⟩, []) else if Nat.beq (n % 2) 0 then some (⟨d.ty, some d.val⟩, [(n, .del)]) else none
  | e => e.take L

def ODyn.res (y : ODyn) (k : Dyn → Res) : ORes := ⟨y.val, Pv.dflt y.ty, fun v => k ⟨y.ty, v⟩⟩

def EV.int? (L : Look) (e : EV) : Option (IntKind × Option Int) :=
  match e with
  | .cst (.int k n) => if inR k n then some (k, some n) else none
  | e => (e.rd L).bind fun d => match d with
    | ⟨.int k, n⟩ => some (k, n)
    | _ => none

/-! ### operations on whole numbers, strings, truths -/
def bitsI (op : BinOp) (k : IntKind) (x y : Int) : Int :=
  match op with
  | .and => k.wrap (BitVec.ofInt k.bits x &&& BitVec.ofInt k.bits y).toNat
  | .or => k.wrap (BitVec.ofInt k.bits x ||| BitVec.ofInt k.bits y).toNat
  | .xor => k.wrap (BitVec.ofInt k.bits x ^^^ BitVec.ofInt k.bits y).toNat
  | _ => k.wrap (BitVec.ofInt k.bits x &&& ~~~ (BitVec.ofInt k.bits y)).toNat

def quoI (k : IntKind) (x y : Int) : Option Int := if y = 0 then none else some (k.wrap (x.tdiv y))
def remI (x y : Int) : Option Int := if y = 0 then none else some (x.tmod y)
def shlI (k : IntKind) (x y : Int) : Option Int := if y < 0 then none else some (k.wrap (x * 2 ^ (min y.toNat k.bits)))
def shrI (k : IntKind) (x y : Int) : Option Int := if y < 0 then none else some (x.fdiv (2 ^ (min y.toNat k.bits)))

def intOp (op : BinOp) (k : IntKind) (x y : Int) : Option ODyn :=
  match op with
  | .add => some ⟨.int k, some (k.wrap (x + y))⟩
  | .sub => some ⟨.int k, some (k.wrap (x - y))⟩
  | .mul => some ⟨.int k, some (k.wrap (x * y))⟩
  | .quo => some ⟨.int k, quoI k x y⟩
  | .rem => some ⟨.int k, remI x y⟩
  | .and => some ⟨.int k, some (bitsI .and k x y)⟩
  | .or => some ⟨.int k, some (bitsI .or k x y)⟩
  | .xor => some ⟨.int k, some (bitsI .xor k x y)⟩
  | .andNot => some ⟨.int k, some (bitsI .andNot k x y)⟩
  | .eql => some ⟨.bool, some (decide (x = y))⟩
  | .neq => some ⟨.bool, some (!decide (x = y))⟩
  | .lss => some ⟨.bool, some (decide (x < y))⟩
  | .leq => some ⟨.bool, some (decide (x ≤ y))⟩
  | .gtr => some ⟨.bool, some (decide (x > y))⟩
  | .geq => some ⟨.bool, some (decide (x ≥ y))⟩
  | _ => none

def ltB : List Int → List Int → Bool
  | _, [] => false
  | [], _ :: _ => true
  | a :: x, b :: y => decide (a < b) || (decide (a = b) && ltB x y)

def catI (x y : List Int) : Option (List Int) := if x.length + y.length ≤ 9223372036854775807 then some (x ++ y) else none

def strOp (op : BinOp) (x y : List Int) : Option ODyn :=
  match op with
  | .add => some ⟨.str, catI x y⟩
  | .eql => some ⟨.bool, some (decide (x = y))⟩
  | .neq => some ⟨.bool, some (!decide (x = y))⟩
  | .lss => some ⟨.bool, some (ltB x y)⟩
  | .leq => some ⟨.bool, some (ltB x y || decide (x = y))⟩
  | .gtr => some ⟨.bool, some (!(ltB x y || decide (x = y)))⟩
  | .geq => some ⟨.bool, some (!ltB x y)⟩
  | _ => none

def sizeOk (P : Program) (t : TypeId) (ty : Ty) : Bool :=
  match P.info? t with
  | some i => Nat.beq i.size ty.size && (match P.underlying t with | some (.struct _) => ty.isAgg | some (.array _ _) => ty.isAgg | some _ => !ty.isAgg && Nat.beq ty.size 1 | none => false)
  | none => false

/-- are two values of a type the same? -/
def eqFs (P : Program) (f : TypeId → (t : Ty) → Option (T t → T t → Bool)) : List Field → Nat → (c : Ty) → Option (T c → T c → Bool)
  | [], _, .unit => some fun _ _ => true
  | x :: fs, off, .pair a b => if decide (x.name ≠ "_") && Nat.beq x.offset off && sizeOk P x.type a then
      match fs, b with
      | [], .unit => (f x.type a).map fun g p q => g p.1 q.1
      | fs, b => (f x.type a).bind fun g => (eqFs P f fs (off + a.size) b).map fun h p q => g p.1 q.1 && h p.2 q.2
    else none
  | _, _, _ => none

def eqLs {α : Type} (g : α → α → Bool) : List α → List α → Bool
  | [], [] => true
  | x :: xs, y :: ys => g x y && eqLs g xs ys
  | _, _ => false

def eqBy (P : Program) : Nat → TypeId → (t : Ty) → Option (T t → T t → Bool)
  | 0, _, _ => none
  | n + 1, t, ty => match P.underlying t with
    | some .bool => match ty with | .bool => some fun (x y : Bool) => decide (x = y) | _ => none
    | some (.int _) => match ty with | .int _ => some fun (x y : Int) => decide (x = y) | _ => none
    | some .string => match ty with | .str => some fun (x y : List Int) => decide (x = y) | _ => none
    | some (.struct fs) => match ty with | .agg c => if P.stoodInHeld t then none else eqFs P (eqBy P n) fs.toList 0 c | _ => none
    | some (.array m e) => match ty with | .agg (.arr m' e') => if Nat.beq m m' && sizeOk P e e' then (eqBy P n e e').map fun g (xs ys : List (T e')) => eqLs g xs ys else none | _ => none
    | _ => none

def isNil : (t : Ty) → Option (T t → Bool)
  | .nili => some fun _ => true
  | .alt _ _ r => (isNil r).map fun f x => match x with | .inl _ => false | .inr y => f y
  | _ => none

/-- a slice that holds something isn't nil; of others nothing is said -/
def notNil {α : Type} : List α → Option Bool
  | [] => none
  | _ :: _ => some false

/-- is it nil? -/
def nilTest (L : Look) (u : TypeDesc) (e : EV) : Option (Option Bool) :=
  match u with
  | .pointer _ => match e with
    | .loc _ _ => some (some false)
    | .oel _ _ _ _ _ => some (some false)
    | .ref _ => some (some false)
    | .cst (.pointer none) => some (some true)
    | e => (e.rd L).bind fun d => match d with
      | ⟨.nilp, some _⟩ => some (some true)
      | ⟨.ptr _, o⟩ => some (o.map fun x => x.isNone)
      | ⟨.box _, o⟩ => some (o.map fun x => x.isNone)
      | _ => none
  | .interface _ => match e with
    | .cst .nilIface => some (some true)
    | e => (e.rd L).bind fun d => (isNil d.ty).map fun f => d.val.map f
  | .slice _ => match e with
    | .cst (.slice none 0 0) => some (some true)
    | e => (e.rd L).bind fun d => match d with
      | ⟨.nils _, some _⟩ => some (some true)
      | ⟨.slice _, some xs⟩ => some (notNil xs)
      | _ => none
  | .func .. => match e with
    | .fn _ _ => some (some false)
    | _ => none
  | _ => none

def EV.nilCst : EV → Bool
  | .cst (.pointer none) => true
  | .cst .nilIface => true
  | .cst .nilFunc => true
  | .cst (.slice none 0 0) => true
  | _ => false

/-- is it the nil of a type's kind? -/
def nilFits (u : TypeDesc) (e : EV) : Bool :=
  match u with
  | .pointer _ => match e with | .cst (.pointer none) => true | _ => false
  | .interface _ => match e with | .cst .nilIface => true | _ => false
  | .slice _ => match e with | .cst (.slice none 0 0) => true | _ => false
  | .func .. => match e with | .cst .nilFunc => true | _ => false
  | _ => false

def isConst : Operand → Bool
  | .const _ => true
  | _ => false

def binOp (P : Program) (L : Look) (op : BinOp) (xType : TypeId) (x y : EV) (yc : Bool) : Option ORes :=
  if y.nilCst then
    if yc then (P.underlying xType).bind fun u => if nilFits u y then (nilTest L u x).bind fun b => match op with
      | .eql => some (ODyn.res ⟨.bool, b⟩ fun d => ⟨.val d, []⟩)
      | .neq => some (ODyn.res ⟨.bool, b.map fun b => !b⟩ fun d => ⟨.val d, []⟩)
      | _ => none
    else none else none
  else
  match op with
  | .shl => (x.int? L).bind fun a => (y.int? L).map fun b => ODyn.res ⟨.int a.1, a.2.bind fun m => b.2.bind fun n => shlI a.1 m n⟩ fun d => ⟨.val d, []⟩
  | .shr => (x.int? L).bind fun a => (y.int? L).map fun b => ODyn.res ⟨.int a.1, a.2.bind fun m => b.2.bind fun n => shrI a.1 m n⟩ fun d => ⟨.val d, []⟩
  | op =>
    (x.fix P xType).bind fun x => (y.fix P xType).bind fun y => (x.rd L).bind fun a => (y.rd L).bind fun b =>
      match a, b with
      | ⟨.int k, some m⟩, ⟨.int k', some n⟩ => if k = k' then (intOp op k m n).map fun d => d.res fun d => ⟨.val d, []⟩ else none
      | ⟨.str, some m⟩, ⟨.str, some n⟩ => (strOp op m n).map fun d => d.res fun d => ⟨.val d, []⟩
      | ⟨s, some m⟩, ⟨t, some n⟩ => if h : s = t then (if P.eqGuardType P.depth xType then none else eqBy P 40 xType t).bind fun f => match op with
          | .eql => some (ORes.just ⟨.val ⟨.bool, f (h ▸ m) n⟩, []⟩)
          | .neq => some (ORes.just ⟨.val ⟨.bool, !f (h ▸ m) n⟩, []⟩)
          | _ => none
        else none
      | _, _ => none

def unOp (P : Program) (L : Look) (op : UnOp) (xType : TypeId) (x : EV) : Option ORes :=
  (x.fix P xType).bind fun x => (x.rd L).bind fun a => match op, a with
    | .neg, ⟨.int k, some n⟩ => some (ORes.just ⟨.val ⟨.int k, k.wrap (0 - n)⟩, []⟩)
    | .xor, ⟨.int k, some n⟩ => some (ORes.just ⟨.val ⟨.int k, bitsI .xor k (if k.signed then -1 else k.max) n⟩, []⟩)
    | .not, ⟨.bool, some b⟩ => some (ORes.just ⟨.val ⟨.bool, !b⟩, []⟩)
    | _, _ => none

/-! ### parts of structs, arrays, slices -/
/-- the fields of a struct: what is given, and zeros -/
def bldF (g : Nat → Option Dyn) : Nat → Ty → Option Dyn
  | _, .unit => some ⟨.unit, ()⟩
  | i, .pair a b => (match g i with
      | some y => if Nat.beq y.ty.size a.size then some y else none
      | none => some (⟨a, dflt a⟩ : Dyn)).bind fun (y : Dyn) => (bldF g (i + 1) b).map fun (z : Dyn) => (⟨.pair y.ty z.ty, (y.val, z.val)⟩ : Dyn)
  | _, _ => none

/-- elements of one kind -/
def bldL (e : Ty) (z : Option (T e)) (g : Nat → Option Dyn) : Nat → Nat → Option (List (T e))
  | _, 0 => some []
  | i, n + 1 => (match g i with | some y => y.as e | none => z).bind fun v => (bldL e z g (i + 1) n).map fun l => v :: l

/-- do a struct's fields lie in a row, as a kind has them? -/
def laid (P : Program) : Nat → List Field → Ty → Bool
  | _, [], .unit => true
  | off, f :: fs, .pair a b => Nat.beq f.offset off && sizeOk P f.type a && laid P (off + a.size) fs b
  | _, _, _ => false

def nodupK : List (Nat × Dyn) → Bool
  | [] => true
  | q :: r => !(r.any fun m => Nat.beq q.1 m.1) && nodupK r

def takeAll (L : Look) : List (Nat × EV) → Option (List (Nat × Dyn) × Upds)
  | [] => some ([], [])
  | (i, x) :: r => (x.take L).bind fun y => if y.2.any (fun m => r.any fun q => q.2.hits m.1 false) then none else match y.1 with
    | ⟨t, some v⟩ => (takeAll L r).map fun z => ((i, ⟨t, v⟩) :: z.1, y.2 ++ z.2)
    | _ => none

def kindOr (k : Ty) : List (Nat × Dyn) → Ty
  | [] => k
  | q :: _ => q.2.ty

def buildOp (P : Program) (L : Look) (E : Operand → Option EV) (t : TypeId) (ps : List (Nat × Operand)) : Option ORes :=
  match P.underlying t with
  | some (.struct fs) => (ps.mapM fun q => (E q.2).bind fun x => ((fs[q.1]?).bind fun f => x.fix P f.type).map fun x => (q.1, x)).bind fun xs => (takeAll L xs).bind fun r =>
      (zeroD P t).bind fun z => match z with
      | ⟨.agg zk, _⟩ => if laid P 0 fs.toList zk && nodupK r.1 && r.1.all (fun q => Nat.blt q.1 fs.size) then (bldF (fun i => lk i r.1) 0 zk).bind fun y => if y.ty.pure then some (ORes.just ⟨.val ⟨.agg y.ty, y.val⟩, r.2⟩) else none else none
      | _ => none
  | some (.array n e) => (ps.mapM fun q => (E q.2).bind fun x => (x.fix P e).map fun x => (q.1, x)).bind fun xs => (takeAll L xs).bind fun r =>
      (zeroD P t).bind fun z => match z with
      | ⟨.agg (.arr m k), _⟩ =>
          let e' := kindOr k r.1
          if Nat.beq m n && sizeOk P e e' && e'.pure && nodupK r.1 && Nat.beq k.size e'.size && r.1.all (fun q => Nat.blt q.1 n) then
            (bldL e' ((⟨k, dflt k⟩ : Dyn).as e') (fun i => lk i r.1) 0 n).map fun l => ORes.just ⟨.val ⟨.agg (.arr n e'), l⟩, r.2⟩
          else none
      | _ => none
  | _ => none

def buildSliceOp (P : Program) (L : Look) (E : Operand → Option EV) (dst : Nat) (t : TypeId) (n : Nat) (ps : List (Nat × Operand)) : Option ORes :=
  match P.underlying t with
  | some (.slice e) => (ps.mapM fun q => (E q.2).bind fun x => (x.fix P e).map fun x => (q.1, x)).bind fun xs => (takeAll L xs).bind fun r =>
      (zeroD P e).bind fun z =>
        let e' := kindOr z.ty r.1
        if sizeOk P e e' && e'.pure && !(Nat.beq e'.size 0) && Nat.ble (n * e'.size) 16777216 && nodupK r.1 && Nat.beq z.ty.size e'.size && r.1.all (fun q => Nat.blt q.1 n) then
          (bldL e' ((⟨z.ty, dflt z.ty⟩ : Dyn).as e') (fun i => lk i r.1) 0 n).map fun l => ORes.just ⟨.at_ (nameOf dst 0) [], r.2 ++ [(nameOf dst 0, .new ⟨.own e', l⟩)]⟩
        else none
  | _ => none

/-- the names that updates speak of -/
def updNames (u : Upds) : List Nat := u.map (·.1)

def ckI (i : Int) (n : Nat) : Option Unit := if 0 ≤ i ∧ i < n then some () else none

/-- a list's part -/
def subL {α : Type} (xs : List α) (lo hi : Int) : Option (List α) :=
  if 0 ≤ lo ∧ lo ≤ hi ∧ hi ≤ xs.length then some ((xs.take hi.toNat).drop lo.toNat) else none

def listAt (L : Look) (n : Nat) (p : Path) : Option ODyn := (L n).bind fun d => getP ⟨d.ty, some d.val⟩ p

/-- no alternative of a type -/
def noAlt (u : Nat) : Ty → Bool
  | .nili => true
  | .alt v _ r => !(Nat.beq u v) && noAlt u r
  | _ => false

def Value.isAggV : Value → Bool
  | .agg _ => true
  | _ => false

/-- the alternative of an interface's value -/
def getAlt (u : Nat) : (t : Ty) → Option ((s : Ty) × (T t → Option (T s)))
  | .alt v s r => if u = v ∧ noAlt u r = true then some ⟨s, fun x => match x with | .inl y => some y | .inr _ => none⟩
      else if u = v then none else (getAlt u r).map fun g => ⟨g.1, fun x => match x with | .inl _ => none | .inr y => g.2 y⟩
  | _ => none

def isIface : Option TypeDesc → Bool
  | some (.interface _) => true
  | none => true
  | _ => false

/-- the zero value of a kind, where its type is known -/
def zeroAs (P : Program) (t : TypeId) (s : Ty) : Bool := match (P.info? t).bind (·.zero) with
  | some z => (Value.isAggV z == s.isAgg) && (match isZ s z.cells.toList with | some [] => true | _ => false)
  | none => false

def assertOp (P : Program) (at_ : TypeId) (commaOk : Bool) (d : ODyn) : Option ORes :=
  if isIface (P.underlying at_) then none else
  match getAlt at_ d.ty with
  | some ⟨s, g⟩ => if s.pure then
      if commaOk then if zeroAs P at_ s then some ⟨d.val.map g, none, fun o => ⟨.tup [.val ⟨s, o.getD (Pv.dflt s)⟩, .val ⟨.bool, o.isSome⟩], []⟩⟩ else none
      else some ⟨d.val.bind g, Pv.dflt s, fun v => ⟨.val ⟨s, v⟩, []⟩⟩
    else none
  | none => if commaOk && noAlt at_ d.ty then (tyId P at_).bind fun s => if zeroAs P at_ s then some ⟨d.val.map fun _ => (), (), fun _ => ⟨.tup [.val ⟨s, Pv.dflt s⟩, .val ⟨.bool, false⟩], []⟩⟩ else none
    else none

/-- one operand of a slice expression -/
def optI (L : Look) : Option EV → Option (Option (Option Int))
  | none => some none
  | some e => (e.int? L).map fun r => some r.2

def lenFits : Option TypeDesc → Ty → Bool
  | some .string, .str => true
  | some (.slice _), .slice _ => true
  | some (.slice _), .own _ => true
  | some (.slice _), .app _ => true
  | some (.slice _), .nils _ => true
  | _, _ => false

def lenOf : (t : Ty) → Option (T t → Int)
  | .str => some fun (x : List Int) => (x.length : Int)
  | .slice e => some fun (x : List (T e)) => (x.length : Int)
  | .own e => some fun (x : List (T e)) => (x.length : Int)
  | .app e => some fun (x : List (T e)) => (x.length : Int)
  | .nils _ => some fun _ => 0
  | _ => none

/-- the elements of something that is appended or copied -/
def elems : (t : Ty) → Option ((e : Ty) × (T t → List (T e)))
  | .str => some ⟨.int .u8, fun (x : List Int) => x⟩
  | .slice e => some ⟨e, fun (x : List (T e)) => x⟩
  | .own e => some ⟨e, fun (x : List (T e)) => x⟩
  | .app e => some ⟨e, fun (x : List (T e)) => x⟩
  | .nils e => some ⟨e, fun _ => []⟩
  | _ => none

/-- room for an append -/
def roomI {α : Type} (bytes : Nat) (xs ys : List α) : Option (List α) := if (xs.length + ys.length) * bytes ≤ 140737488355328 then some (xs ++ ys) else none

def minI (x y : Int) : Int := if x ≤ y then x else y
def maxI (x y : Int) : Int := if x ≤ y then y else x

/-! ### arguments -/
/-- a slot's value as an argument: objects that a pointer leads to are handed over: where each lies -/
def EV.arg (L : Look) : EV → Option (Option AV × List (Nat × Path) × Upds)
  | .loc n p => (listAt L n p).bind fun y => match y.val with
      | some v => some (some (.obj ⟨y.ty, v⟩), [(n, p)], [])
      | none => none
  | .ref d => some (some (.ref d), [], [])
  | .fn f [] => some (some (.fn f []), [], [])
  | e => (e.take L).bind fun r => match r.1.val with
      | some v => some (some (.val ⟨r.1.ty, v⟩), [], r.2)
      | none => none


def argAll (L : Look) (fix : Nat → EV → Option EV) : Nat → List EV → Option (List AV × List (Nat × Path) × Upds)
  | _, [] => some ([], [], [])
  | i, x :: r => (fix i x).bind fun x => (x.arg L).bind fun y => match y with
    | (some a, os, u) => if u.any (fun m => r.any fun q => q.hits m.1 true) then none else (argAll L fix (i + 1) r).map fun z => (a :: z.1, os ++ z.2.1, u ++ z.2.2)
    | _ => none

def nodupN : List Nat → Bool
  | [] => true
  | n :: r => !(r.any fun m => Nat.beq n m) && nodupN r

/-- what a call's results become in the caller: values, and places for what is new -/
def backRs (dst : Nat) : Nat → List RV → List EV × Upds
  | _, [] => ([], [])
  | i, r :: l =>
    let z := backRs dst (i + 1) l
    match r with
    | .val d => (.val d :: z.1, z.2)
    | .own d => (.at_ (nameOf dst i) [] :: z.1, (nameOf dst i, .new d) :: z.2)
    | .ptr d => (.loc (nameOf dst i) [] :: z.1, (nameOf dst i, .new d) :: z.2)

/-- what was handed over comes back -/
def backOs (L : Look) : List (Nat × Path) → List Dyn → Option (Upds)
  | [], [] => some []
  | (n, p) :: r, d :: l => (L n).bind fun o => (setP ⟨o.ty, some o.val⟩ p ⟨d.ty, some d.val⟩).bind fun y => match y.val with
    | some v => (backOs L r l).map fun z => (n, .set ⟨y.ty, v⟩) :: z
    | none => none
  | _, _ => none

def tupOf : List EV → EV
  | [e] => e
  | l => .tup l

def callRes (L : Look) (dst : Nat) (os : List (Nat × Path)) (u : Upds) (rs : List RV) (ds : List Dyn) : Res :=
  let b := backRs dst 0 rs
  match backOs L os ds with
  | some w => ⟨tupOf b.1, u ++ (w ++ b.2)⟩
  | none => ⟨.dead, []⟩

def fldPath : Path → Bool
  | [] => true
  | .fld _ :: p => fldPath p
  | .idx _ :: _ => false

/-- what is handed over lies as what comes back -/
def objFit (L : Look) : List (Nat × Path) → List Ty → Bool
  | [], [] => true
  | (n, p) :: r, t :: l => (match listAt L n p with
      | some y => decide (sk y.ty = sk t) && fldPath p && !(Nat.beq y.ty.size 0)
      | none => false) && objFit L r l
  | _, _ => false

def callOp (Γ : Nat → Option CSem) (L : Look) (dst : Nat) (f : Nat) (fix : Nat → EV → Option EV) (args : List EV) : Option ORes :=
  (Γ f).bind fun sem => (argAll L fix 0 args).bind fun a => (sem a.1).bind fun s =>
    if nodupN (a.2.1.map (·.1)) && !(a.2.1.any fun x => (updNames a.2.2).any fun m => Nat.beq x.1 m) && objFit L a.2.1 s.objs && s.res.all RK.ok then
      some ⟨s.run, (resD s.res, objD s.objs), fun x => callRes L dst a.2.1 (bif s.res.all (fun r => r.ty.flat) && s.objs.all Ty.flat then [] else a.2.2) (resL s.res x.1) (objsL s.objs x.2)⟩
    else none

/-- a field lies where the program says -/
def fldOk (P : Program) (fd : Field) (f : Nat) (t : Ty) : Bool := match offS t (.fld f) with
  | some (o, u) => Nat.beq o fd.offset && sizeOk P fd.type u && !(Nat.beq u.size 0)
  | none => false

def pickOp (P : Program) (L : Look) (E Ea Eb : Operand → Option EV) (c a b : Operand) (ty : TypeId) : Option ORes :=
  (E c).bind fun c => (c.rd L).bind fun c => match c with
    | ⟨.bool, some c⟩ => (Ea a).bind fun a => (a.fix P ty).bind fun a => (a.rd L).bind fun a => (Eb b).bind fun b => (b.fix P ty).bind fun b => (b.rd L).bind fun b =>
      match a, b with
      | ⟨s, some x⟩, ⟨t, some y⟩ => if h : s = t then (if t.pure then some (ORes.just ⟨.val ⟨t, bif c then h ▸ x else y⟩, []⟩) else none) else none
      | _, _ => none
    | _ => none

def ifaceOp (P : Program) (L : Look) (t : TypeId) (x : EV) : Option ORes :=
  match x with
  | .loc n [] => (L n).bind fun d => if Nat.beq (n % 2) 0 && (frz d.ty).pure then some (ORes.just ⟨.val ⟨.alt t (.ptr (frz d.ty)) .nili, .inl (some (frzV d.ty d.val))⟩, [(n, .del)]⟩) else none
  | x => (x.fix P t).bind fun x => (x.take L).bind fun r => if sizeOk P t r.1.ty then some ⟨r.1.val, Pv.dflt r.1.ty, fun v => ⟨.val ⟨.alt t r.1.ty .nili, .inl v⟩, r.2⟩⟩ else none

/-- a part of a string or a slice -/
def sliceOp (P : Program) (t : TypeId) (r : ODyn × Upds) (lo hi mx : Option (Option Int)) : Option ORes :=
  match P.underlying t with
  | some .string => match r.1, mx with
    | ⟨.str, some s⟩, none => some ⟨Option.bind (match lo with | some l => l | none => some 0) fun l => Option.bind (match hi with | some h => h | none => some ((s : List Int).length : Int)) fun h => subL (s : List Int) l h, [], fun (x : List Int) => ⟨.val ⟨.str, x⟩, r.2⟩⟩
    | _, _ => none
  | some (.slice et) => match r.1, mx with
    | ⟨.slice e, s⟩, none => if sizeOk P et e then some ⟨s.bind fun (s : List (T e)) => Option.bind (match lo with | some l => l | none => some 0) fun l => Option.bind (match hi with | some h => h | none => some (s.length : Int)) fun h => subL s l h, [], fun (x : List (T e)) => ⟨.val ⟨.slice e, x⟩, r.2⟩⟩ else none
    | ⟨.slice e, s⟩, some m => if sizeOk P et e then some ⟨s.bind fun (s : List (T e)) => Option.bind (match lo with | some l => l | none => some 0) fun l => Option.bind (match hi with | some h => h | none => none) fun h => m.bind fun m => if m = h then subL s l h else none, [], fun (xs : List (T e)) => ⟨.clip e xs, r.2⟩⟩ else none
    | _, _ => none
  | _ => none

/-! ### append -/
structure ABase where
  e : Ty
  xs : List (T e)
  app : Bool
  upd : Upds

def appBase (L : Look) : EV → Option ABase
  | .at_ n p => (L n).bind fun o => (getP ⟨o.ty, some o.val⟩ p).bind fun y => match y with
    | ⟨.own e, some xs⟩ => (setP ⟨o.ty, some o.val⟩ p ⟨.junk, some ()⟩).bind fun z => match z with
      | ⟨t, some v⟩ => some ⟨e, xs, false, [(n, .keep ⟨t, v⟩)]⟩
      | _ => none
    | ⟨.app e, some xs⟩ => (setP ⟨o.ty, some o.val⟩ p ⟨.junk, some ()⟩).bind fun z => match z with
      | ⟨t, some v⟩ => some ⟨e, xs, true, [(n, .keep ⟨t, v⟩)]⟩
      | _ => none
    | _ => none
  | .val ⟨.nils e, _⟩ => some ⟨e, [], false, []⟩
  | .clip e xs => some ⟨e, xs, true, []⟩
  | _ => none

def mkApp : Bool → (e : Ty) → List (T e) → Dyn
  | true, e, xs => ⟨.app e, xs⟩
  | false, e, xs => ⟨.own e, xs⟩

def zeroSz (P : Program) (t : TypeId) (n : Nat) : Bool := match (P.info? t).bind (·.zero) with
  | some z => Nat.beq z.cells.size n
  | none => false

def appendOp (P : Program) (L : Look) (dst : Nat) (t t2 : TypeId) (x : EV) (ys : ODyn) : Option ORes :=
  match P.underlying t, elems ys.ty with
  | some (.slice e), some g => if sizeOk P e g.1 && g.1.pure && !(Nat.beq g.1.size 0) && lenFits (P.underlying t2) ys.ty && Nat.blt 0 (P.bytesOf e) && zeroSz P e g.1.size then
      (appBase L x).bind fun b => if h : g.1 = b.e then
        some ⟨ys.val.bind fun ys => roomI (P.bytesOf e) b.xs (h ▸ g.2 ys : List (T b.e)), [], fun (r : List (T b.e)) => ⟨.at_ (nameOf dst 0) [], b.upd ++ [(nameOf dst 0, .new (mkApp b.app b.e r))]⟩⟩
      else none
    else none
  | _, _ => none

/-! ### one operation -/
def evalOp (P : Program) (Γ : Nat → Option CSem) (L : Look) (E : Operand → Option EV) (dst : Nat) (op : Op) (ty : TypeId) : Option ORes :=
  match op with
  | .move x | .assign x => (E x).bind fun x => (x.fix P ty).map fun x => ORes.just ⟨x, []⟩
  | .pick c a b => pickOp P L E E E c a b ty
  | .alloc t => (zeroD P t).map fun d => ORes.just ⟨.loc (nameOf dst 0) [], [(nameOf dst 0, .new d)]⟩
  | .box t x => (E x).bind fun x => (x.fix P t).bind fun x => (x.mv L).bind fun r =>
      if sizeOk P t r.1.ty then some (r.1.res fun d => ⟨.loc (nameOf dst 0) [], r.2 ++ [(nameOf dst 0, .new d)]⟩) else none
  | .build t ps => buildOp P L E t ps.toList
  | .buildSlice t n ps => buildSliceOp P L E dst t n ps.toList
  | .load t a => (E a).bind fun a => match a with
      | .loc n p => (listAt L n p).bind fun y => if sizeOk P t y.ty then (if y.ty.pure then some (y.res fun d => ⟨.val d, []⟩) else some (y.res fun _ => ⟨.at_ n p, []⟩)) else none
      | .ref d => if sizeOk P t d.ty then some (ORes.just ⟨.val d, []⟩) else none
      | .oel n p e0 i q => (listAt L n p).bind fun y => match y with
          | ⟨.own e, some xs⟩ => if e0 = e then (getP ⟨e, rdI xs i⟩ q).bind fun z => if sizeOk P t z.ty && z.ty.pure then some (z.res fun d => ⟨.val d, []⟩) else none else none
          | _ => none
      | _ => none
  | .store t a x => (E a).bind fun a => (E x).bind fun x => (x.fix P t).bind fun x => match a with
      | .loc n p => (x.mv L).bind fun r => if sizeOk P t r.1.ty && !(Nat.beq r.1.ty.size 0) && !((updNames r.2).any fun m => Nat.beq n m) then
          (L n).bind fun o => (getP ⟨o.ty, some o.val⟩ p).bind fun old => if sk old.ty = sk r.1.ty then
            (setP ⟨o.ty, some o.val⟩ p r.1).map fun y => y.res fun d => ⟨.dead, r.2 ++ [(n, .set d)]⟩
          else none
        else none
      | .oel n p e0 i q => (x.take L).bind fun r => if sizeOk P t r.1.ty && !(Nat.beq r.1.ty.size 0) && !((updNames r.2).any fun m => Nat.beq n m) then
          (L n).bind fun o => (getP ⟨o.ty, some o.val⟩ p).bind fun y => match y with
          | ⟨.own e, some xs⟩ => if e0 = e ∧ e.pure = true then (getP ⟨e, rdI xs i⟩ q).bind fun old => if sk old.ty = sk r.1.ty then (setP ⟨e, rdI xs i⟩ q r.1).bind fun z => if h : z.ty = e then
              (setP ⟨o.ty, some o.val⟩ p ⟨.own e, (h ▸ z.val : Option (T e)).bind fun v => stI xs i v⟩).map fun y => y.res fun d => ⟨.dead, r.2 ++ [(n, .keep d)]⟩
            else none else none else none
          | _ => none
        else none
      | _ => none
  | .nilCheck x => (E x).bind fun x => match x with
      | .loc n p => some (ORes.just ⟨.loc n p, []⟩)
      | .oel n p e i q => some (ORes.just ⟨.oel n p e i q, []⟩)
      | .ref d => some (ORes.just ⟨.ref d, []⟩)
      | .fn f c => some (ORes.just ⟨.fn f c, []⟩)
      | x => (x.rd L).bind fun d => match d with
        | ⟨.ptr t, o⟩ => if t.pure then some ⟨o.bind id, Pv.dflt t, fun v => ⟨.ref ⟨t, v⟩, []⟩⟩ else none
        | _ => none
  | .binOp op xt x y _ => (E x).bind fun ex => (E y).bind fun ey => binOp P L op xt ex ey (isConst y)
  | .unOp op xt x => (E x).bind fun x => unOp P L op xt x
  | .convert s t x => (E x).bind fun x => (x.fix P s).bind fun x => (P.underlying t).bind fun u => (P.underlying s).bind fun w =>
      match w, u with
      | .int _, .int k => (x.rd L).bind fun d => match d with
          | ⟨.int _, n⟩ => some (ODyn.res ⟨.int k, n.map fun n => k.wrap n⟩ fun d => ⟨.val d, []⟩)
          | _ => none
      | .string, .string => (x.rd L).bind fun d => match d with
          | ⟨.str, some _⟩ => some (ORes.just ⟨x, []⟩)
          | _ => none
      | _, _ => none
  | .slice t x lo hi mx => (E x).bind fun x => (x.fix P t).bind fun x => (x.take L).bind fun r =>
      (match lo with | none => some none | some o => (E o).map some).bind fun lo => (match hi with | none => some none | some o => (E o).map some).bind fun hi =>
      (match mx with | none => some none | some o => (E o).map some).bind fun mx => (optI L lo).bind fun lo => (optI L hi).bind fun hi => (optI L mx).bind fun mx =>
      sliceOp P t r lo hi mx
  | .fieldAddr s x f => (E x).bind fun x => match P.underlying s with
      | some (.struct fs) => (fs[f]?).bind fun fd =>
        match x with
        | .loc n p => (listAt L n p).bind fun y => if fldOk P fd f y.ty then some (ORes.just ⟨.loc n (p ++ [.fld f]), []⟩) else none
        | .oel n p e i q => (offP e q).bind fun z => if fldOk P fd f z.2 then some (ORes.just ⟨.oel n p e i (q ++ [.fld f]), []⟩) else none
        | .ref d => if fldOk P fd f d.ty then (getS ⟨d.ty, some d.val⟩ (.fld f)).map fun y => y.res fun d => ⟨.ref d, []⟩ else none
        | _ => none
      | _ => none
  | .field s x f => (E x).bind fun x => match P.underlying s with
      | some (.struct fs) => (fs[f]?).bind fun fd =>
        (x.rd L).bind fun d => if fldOk P fd f d.ty && d.ty.pure then (getS d (.fld f)).map fun y => y.res fun d => ⟨.val d, []⟩ else none
      | _ => none
  | .indexAddr t x ix => (E x).bind fun x => (E ix).bind fun ix => (ix.int? L).bind fun i => match P.underlying t with
      | some (.array m e) => match x with
        | .loc n p => (listAt L n p).bind fun y => match y with
            | ⟨.agg (.arr m' e'), _⟩ => if Nat.beq m m' && sizeOk P e e' then some ⟨i.2.bind fun i => (ckI i m).map fun _ => i, 0, fun i => ⟨.loc n (p ++ [.idx i]), []⟩⟩ else none
            | _ => none
        | .ref d => match d with
            | ⟨.agg (.arr m' e'), xs⟩ => if Nat.beq m m' && sizeOk P e e' then some (ODyn.res ⟨e', i.2.bind fun i => rdI (xs : List (T e')) i⟩ fun d => ⟨.ref d, []⟩) else none
            | _ => none
        | _ => none
      | some (.slice e) => (x.fix P t).bind fun x => (x.rd L).bind fun y => match y, x with
        | ⟨.own e', some xs⟩, .at_ n p => if sizeOk P e e' then some ⟨i.2.bind fun i => (ckI i xs.length).map fun _ => i, 0, fun i => ⟨.oel n p e' i [], []⟩⟩ else none
        | ⟨.slice e', some xs⟩, _ => if sizeOk P e e' && e'.pure then some (ODyn.res ⟨e', i.2.bind fun i => rdI (xs : List (T e')) i⟩ fun d => ⟨.ref d, []⟩) else none
        | _, _ => none
      | _ => none
  | .index t x ix => (E x).bind fun x => (x.fix P t).bind fun x => (E ix).bind fun ix => (ix.int? L).bind fun i => (x.rd L).bind fun y => match P.underlying t, y with
      | some (.array m e), ⟨.agg (.arr m' e'), some xs⟩ => if Nat.beq m m' && sizeOk P e e' && e'.pure then some (ODyn.res ⟨e', i.2.bind fun i => rdI (xs : List (T e')) i⟩ fun d => ⟨.val d, []⟩) else none
      | some .string, ⟨.str, some s⟩ => some (ODyn.res ⟨.int .u8, i.2.bind fun i => rdI s i⟩ fun d => ⟨.val d, []⟩)
      | _, _ => none
  | .extract x i => (E x).bind fun x => match x with
      | .tup l => (l[i]?).map fun x => ORes.just ⟨x, []⟩
      | _ => none
  | .makeFunc (.func f) first caps => if first.isEmpty then (caps.toList.mapM E).map fun c => ORes.just ⟨.fn f c, []⟩ else none
  | .makeInterface t x => (E x).bind fun x => if isIface (P.underlying t) then none else ifaceOp P L t x
  | .typeAssert x xt at_ commaOk => (E x).bind fun x => (x.fix P xt).bind fun x => (x.rd L).bind fun d => assertOp P at_ commaOk d
  | .call c => match c.callee with
    | .builtin .len => match c.args.toList, c.argTypes.toList with
      | [x], t :: _ => (E x).bind fun x => (x.fix P t).bind fun x => (x.rd L).bind fun d => if lenFits (P.underlying t) d.ty then (lenOf d.ty).map fun g => ODyn.res ⟨.int .i64, d.val.map g⟩ fun d => ⟨.val d, []⟩ else none
      | _, _ => none
    | .builtin .min => match c.args.toList with
      | [x, y] => (E x).bind fun x => (E y).bind fun y => (x.int? L).bind fun a => (y.int? L).bind fun b => if a.1 = b.1 then some (ODyn.res ⟨.int a.1, a.2.bind fun m => b.2.map fun n => minI m n⟩ fun d => ⟨.val d, []⟩) else none
      | _ => none
    | .builtin .max => match c.args.toList with
      | [x, y] => (E x).bind fun x => (E y).bind fun y => (x.int? L).bind fun a => (y.int? L).bind fun b => if a.1 = b.1 then some (ODyn.res ⟨.int a.1, a.2.bind fun m => b.2.map fun n => maxI m n⟩ fun d => ⟨.val d, []⟩) else none
      | _ => none
    | .builtin .append => match c.args.toList, c.argTypes.toList with
      | [x, y], [t, t2] => (E x).bind fun x => (E y).bind fun y => (x.fix P t).bind fun x => (y.fix P t2).bind fun y => (y.rd L).bind fun ys => appendOp P L dst t t2 x ys
      | _, _ => none
    | .value (.func f) => (c.args.toList.mapM E).bind fun xs => callOp Γ L dst f (fun i x => (c.argTypes[i]?).bind fun t => x.fix P t) xs
    | .value (.tmp t) => (E (.tmp t)).bind fun g => match g with
      | .fn f caps => (c.args.toList.mapM E).bind fun xs => callOp Γ L dst f (fun i x => match c.argTypes[i]? with | some t => x.fix P t | none => some x) (xs ++ caps)
      | _ => none
    | _ => none
  | _ => none

/-! ### a region -/
mutual
/-- does a slot hang on what another one, a guard's, holds? -/
def EV.hangs (t : Nat) : EV → Bool
  | .maybe t' _ v => Nat.beq t t' || v.hangs t
  | .tup l => EV.hangsL t l
  | .fn _ l => EV.hangsL t l
  | _ => false
def EV.hangsL (t : Nat) : List EV → Bool
  | [] => false
  | x :: r => x.hangs t || EV.hangsL t r
end

def kill (n : Nat) (hard : Bool) (env : Env) : Env := env.map fun x => (x.1, bif x.2.hits n hard then .dead else x.2)

def apply1 (u : Nat × Upd) (s : St) : St :=
  match u.2 with
  | .del => ⟨kill u.1 true s.env, rmv u.1 s.pl⟩
  | .new d => ⟨kill u.1 true s.env, put u.1 d s.pl⟩
  | .set d => ⟨kill u.1 false s.env, put u.1 d s.pl⟩
  | .keep d => ⟨s.env, put u.1 d s.pl⟩

def applyU : Upds → St → St
  | [], s => s
  | u :: r, s => applyU r (apply1 u s)

/-- operands, behind a guard that said so -/
def Eop (env : Env) (g : Option (Nat × Bool)) : Operand → Option EV
  | .tmp t => match lk t env with
    | some (.maybe t' w v) => match g with
      | some (gt, gw) => bif Nat.beq gt t' && (gw == w) then some v else some (.maybe t' w v)
      | none => some (.maybe t' w v)
    | r => r
  | .const v => some (.cst v)
  | .func f => some (.fn f [])
  | .global _ => none

/-- places written only if a guard said so -/
def mergeU (b : Bool) (L : Look) : Upds → Option Upds
  | [] => some []
  | (n, .set d) :: r => (L n).bind fun o => if h : o.ty = d.ty then (mergeU b L r).map fun z => (n, .set ⟨d.ty, bif b then d.val else h ▸ o.val⟩) :: z else none
  | (n, .keep d) :: r => (L n).bind fun o => if h : o.ty = d.ty then (mergeU b L r).map fun z => (n, .keep ⟨d.ty, bif b then d.val else h ▸ o.val⟩) :: z else none
  | _ => none

/-- an operation, behind a guard or not -/
def opE (P : Program) (Γ : Nat → Option CSem) (L : Look) (env : Env) (g : Option (Nat × Bool)) (dst : Nat) (op : Op) (ty : TypeId) : Option ORes :=
  match op, g with
  | .pick (.tmp t) a b, none => pickOp P L (Eop env none) (Eop env (some (t, true))) (Eop env (some (t, false))) (.tmp t) a b ty
  | op, g => evalOp P Γ L (Eop env g) dst op ty

/-- nothing is left that hung on what a slot held before -/
def killM (t : Nat) (env : Env) : Env := env.map fun x => (x.1, bif x.2.hangs t then .dead else x.2)

def putE (d : Nat) (e : EV) (env : Env) : Env := put d e (killM d env)

/-- what an operation leaves in its slot -/
def putO (nt : Nat) (dst : Option Nat) (e : EV) (s : St) : Option St := match dst with
  | some d => if Nat.blt d nt && !(e.hangs d) then some ⟨putE d e s.env, s.pl⟩ else none
  | none => some s

/-- the slot that an operation's guard looks at, and what it holds -/
def guardE (ops : Array Oper) (s : St) (j : Nat) : Option (Nat × Bool) := (ops[j]?).bind fun o => o.dst.bind fun t => (lk t s.env).bind fun e => (e.rd fun n => lk n s.pl).bind fun d => match d with
  | ⟨.bool, some g⟩ => some (t, g)
  | _ => none

/-- what is run only if a guard said so -/
def guardR {α β : Type} (b : Bool) (run : Option β) (d : β) (k : β → Option α) : Option α := match run with
  | some v => k (bif b then v else d)
  | none => bif b then none else k d

def evalOps {α : Type} (P : Program) (Γ : Nat → Option CSem) (nt : Nat) (ops : Array Oper) (k : St → Option α) : List Oper → St → Option α
  | [], s => k s
  | o :: r, s => match o.guard with
    | none => (opE P Γ (fun n => lk n s.pl) s.env none (o.dst.getD 0) o.op o.type).bind fun e => e.run.bind fun x => (putO nt o.dst (e.out x).ev (applyU (e.out x).upd s)).bind fun s => evalOps P Γ nt ops k r s
    | some (j, want) => (guardE ops s j).bind fun tg => (opE P Γ (fun n => lk n s.pl) s.env (some (tg.1, want)) (o.dst.getD 0) o.op o.type).bind fun e =>
        guardR (bif want then tg.2 else !tg.2) e.run e.dflt fun x => (mergeU (bif want then tg.2 else !tg.2) (fun n => lk n s.pl) (e.out x).upd).bind fun u =>
          (putO nt o.dst (.maybe tg.1 want (e.out x).ev) (applyU u s)).bind fun s => evalOps P Γ nt ops k r s

def evalRegion {α : Type} (P : Program) (Γ : Nat → Option CSem) (nt : Nat) (ops : Array Oper) (s : St) (k : St → Option α) : Option α := evalOps P Γ nt ops k ops.toList s

def keepOnly {α : Type} : List Nat → List (Nat × α) → Option (List (Nat × α))
  | [], _ => some []
  | n :: r, l => (lk n l).bind fun a => (keepOnly r l).map fun z => (n, a) :: z

def St.only (s : St) (ts ns : List Nat) : Option St := (keepOnly ts s.env).bind fun e => (keepOnly ns s.pl).map fun p => ⟨e, p⟩

end
end Go.Pv
