/- A plain run of a function's body: branches, blocks, loops; what a loop's head keeps. -/
import Derived.Test.YtmjappidghjkjaaPvDraw3
namespace Go.Pv
noncomputable section

/-! ### loops -/
def iter {σ ρ : Type} (f : σ → Option (σ ⊕ ρ)) : Nat → σ → Option ρ
  | 0, _ => none
  | n + 1, x => match f x with
    | none => none
    | some (.inr r) => some r
    | some (.inl y) => iter f n y

/-- what comes out when a round is run again and again -/
def loopR {σ ρ : Type} (f : σ → Option (σ ⊕ ρ)) (x : σ) : Option ρ := open Classical in
  if h : ∃ n r, iter f n x = some r then some (Classical.choose (Classical.choose_spec h)) else none

/-! ### what a loop's head keeps -/
/-- data; a slice that is the frame's own; a pointer to a place -/
inductive SK where
  | dat (t : Ty) | own (e : Ty) (app : Bool) | loc (n : Nat) (p : Path)

structure Shape where
  slots : List (Nat × SK)
  pls : List (Nat × Ty)

def appTy : Bool → Ty → Ty
  | true, e => .app e
  | false, e => .own e

@[reducible] def ShS : List (Nat × SK) → Type
  | [] => Unit
  | (_, .dat t) :: r => T t × ShS r
  | (_, .own e b) :: r => T (appTy b e) × ShS r
  | (_, .loc _ _) :: r => ShS r

@[reducible] def PlS : List (Nat × Ty) → Type
  | [] => Unit
  | (_, t) :: r => T t × PlS r

def hName (t : Nat) : Nat := 2 * (16 * t + 15)

def ownNames : List (Nat × SK) → List Nat
  | [] => []
  | (t, .own _ _) :: r => hName t :: ownNames r
  | _ :: r => ownNames r

def pathEq : Path → Path → Bool
  | [], [] => true
  | .fld i :: p, .fld j :: q => Nat.beq i j && pathEq p q
  | _, _ => false

def ownSrcs (env : Env) : List (Nat × SK) → List Nat
  | [] => []
  | (t, .own _ _) :: r => match lk t env with
    | some (.at_ n _) => n :: ownSrcs env r
    | _ => ownSrcs env r
  | _ :: r => ownSrcs env r

def absS (L : Look) (env : Env) : (l : List (Nat × SK)) → Option (ShS l)
  | [] => some ()
  | (t, .dat τ) :: r => (lk t env).bind fun e => (e.rd L).bind fun y => match y with
    | ⟨ty, some v⟩ => if ty.pure && τ.pure then (cv ty τ).bind fun f => (absS L env r).map fun z => (f v, z) else none
    | _ => none
  | (t, .own e b) :: r => (lk t env).bind fun x => match x with
    | .at_ n [] => if Nat.beq (n % 2) 0 then (L n).bind fun d => (cv d.ty (appTy b e)).bind fun f => (absS L env r).map fun z => (f d.val, z) else none
    | .val d => if d.ty.pure then (cv d.ty (appTy b e)).bind fun f => (absS L env r).map fun z => (f d.val, z) else none
    | _ => none
  | (t, .loc n p) :: r => (lk t env).bind fun x => match x with
    | .loc m q => if Nat.beq n m && pathEq p q then absS L env r else none
    | _ => none

def absP (L : Look) : (l : List (Nat × Ty)) → Option (PlS l)
  | [] => some ()
  | (n, τ) :: r => (L n).bind fun d => if sk d.ty = sk τ then (cv d.ty τ).bind fun f => (absP L r).map fun z => (f d.val, z) else none

def locsIn (names : List Nat) : List (Nat × SK) → Bool
  | [] => true
  | (_, .loc n _) :: r => names.any (Nat.beq n) && locsIn names r
  | _ :: r => locsIn names r

def upTo : Nat → List Nat
  | 0 => []
  | n + 1 => n :: upTo n

def Shape.ok (nob : Nat) (sh : Shape) : Bool :=
  nodupN (ownNames sh.slots ++ sh.pls.map (·.1)) && locsIn (sh.pls.map (·.1)) sh.slots && (upTo nob).all fun k => (sh.pls.map (·.1)).any (Nat.beq (objName k))

abbrev Sg (sh : Shape) : Type := ShS sh.slots × PlS sh.pls

def abs (nob : Nat) (sh : Shape) (s : St) : Option (Sg sh) :=
  if sh.ok nob && nodupN (ownSrcs s.env sh.slots ++ sh.pls.map (·.1)) then (absS (fun n => lk n s.pl) s.env sh.slots).bind fun x => (absP (fun n => lk n s.pl) sh.pls).map fun y => (x, y) else none

def concE : (l : List (Nat × SK)) → ShS l → Env
  | [], _ => []
  | (t, .dat τ) :: r, x => (t, .val ⟨τ, x.1⟩) :: concE r x.2
  | (t, .own _ _) :: r, x => (t, .at_ (hName t) []) :: concE r x.2
  | (t, .loc n p) :: r, x => (t, .loc n p) :: concE r x

def concO : (l : List (Nat × SK)) → ShS l → Pl
  | [], _ => []
  | (_, .dat _) :: r, x => concO r x.2
  | (t, .own e b) :: r, x => (hName t, ⟨appTy b e, x.1⟩) :: concO r x.2
  | (_, .loc _ _) :: r, x => concO r x

def concP : (l : List (Nat × Ty)) → PlS l → Pl
  | [], _ => []
  | (n, τ) :: r, x => (n, ⟨τ, x.1⟩) :: concP r x.2

def conc (sh : Shape) (x : Sg sh) : St := ⟨concE sh.slots x.1, concO sh.slots x.1 ++ concP sh.pls x.2⟩

/-! ### bodies -/
structure Cfg where
  P : Program
  Γ : Nat → Option CSem
  nt : Nat
  nob : Nat
  ann : Nat → Option Shape

def boolE (s : St) (c : Operand) : Option Bool := (Eop s.env none c).bind fun e => match e with
  | .cst (.bool b) => some b
  | e => (e.rd fun n => lk n s.pl).bind fun d => match d with
    | ⟨.bool, some b⟩ => some b
    | _ => none

def evalCode (C : Cfg) : Code → {α : Type} → Nat → St → (St → Option α) → List (Nat × (St → Option α)) → (St → Option α) → Option α
  | .skip, _, _, s, kn, _, _ => kn s
  | .region _ ops d, _, _, s, kn, _, _ => bif d then (bif C.P.follows .mixedOrders then evalDraw C.P C.Γ C.nt ops kn [] 0 ops.toList s else none) else evalRegion C.P C.Γ C.nt ops s kn
  | .seq x y, _, cur, s, kn, kx, kr => evalCode C x cur s (fun s => evalCode C y cur s kn kx kr) kx kr
  | .cond c x y, _, cur, s, kn, kx, kr => (boolE s c).bind fun b => bif b then evalCode C x cur s kn kx kr else evalCode C y cur s kn kx kr
  | .block id x, _, _, s, kn, kx, kr => evalCode C x id s kn ((id, kn) :: kx) kr
  | .loop x, α, cur, s, _, kx, kr => (C.ann cur).bind fun sh => (abs C.nob sh s).bind fun y =>
      loopR (fun z => evalCode C x (α := Sg sh ⊕ α) cur (conc sh z) (fun s => (abs C.nob sh s).map .inl) (kx.map fun q => (q.1, fun s => (q.2 s).map .inr)) (fun s => (kr s).map .inr)) y
  | .exit id, _, _, s, _, kx, _ => (lk id kx).bind fun k => k s
  | .label _, _, _, s, kn, _, _ => kn s
  | .ret, _, _, s, _, _, kr => kr s
  | _, _, _, _, _, _, _ => none

/-! ### a function -/
inductive AK where
  | val (t : Ty) | obj (t : Ty) | ref (t : Ty) | fnc (f : Nat)

@[reducible] def ArgT : List AK → Type
  | [] => Unit
  | .val t :: l => T t × ArgT l
  | .obj t :: l => T t × ArgT l
  | .ref t :: l => T t × ArgT l
  | .fnc _ :: l => ArgT l

def matchArgs : (l : List AK) → List AV → Option (ArgT l)
  | [], [] => some ()
  | .val t :: l, .val d :: r => if t.pure then (cv d.ty t).bind fun f => (matchArgs l r).map fun z => (f d.val, z) else none
  | .obj t :: l, .obj d :: r => if sk d.ty = sk t then (cv d.ty t).bind fun f => (matchArgs l r).map fun z => (f d.val, z) else none
  | .ref t :: l, .ref d :: r => if t.pure then (cv d.ty t).bind fun f => (matchArgs l r).map fun z => (f d.val, z) else none
  | .fnc f :: l, .fn g [] :: r => if Nat.beq f g then matchArgs l r else none
  | _, _ => none

structure Sig where
  args : List AK
  res : List RK
  outs : List Ty

def mkSem (S : Sig) (F : ArgT S.args → Option (ResT S.res × ObjT S.outs)) : CSem := fun avs => (matchArgs S.args avs).map fun x => ⟨S.res, S.outs, F x⟩

def orSem (f g : CSem) : CSem := fun avs => match f avs with
  | some s => some s
  | none => g avs

def entE : Nat → Nat → (l : List AK) → ArgT l → Env
  | _, _, [], _ => []
  | i, k, .val t :: l, x => (i, .val ⟨t, x.1⟩) :: entE (i + 1) k l x.2
  | i, k, .obj _ :: l, x => (i, .loc (objName k) []) :: entE (i + 1) (k + 1) l x.2
  | i, k, .ref t :: l, x => (i, .ref ⟨t, x.1⟩) :: entE (i + 1) k l x.2
  | i, k, .fnc f :: l, x => (i, .fn f []) :: entE (i + 1) k l x

def entP : Nat → (l : List AK) → ArgT l → Pl
  | _, [], _ => []
  | k, .val _ :: l, x => entP k l x.2
  | k, .obj t :: l, x => (objName k, ⟨t, x.1⟩) :: entP (k + 1) l x.2
  | k, .ref _ :: l, x => entP k l x.2
  | k, .fnc _ :: l, x => entP k l x

def nObj : List AK → Nat
  | [] => 0
  | .obj _ :: l => nObj l + 1
  | _ :: l => nObj l

def entry (l : List AK) (x : ArgT l) : St := ⟨entE 0 0 l x, entP 0 l x⟩

/-- the names of places that results are -/
def resNames (env : Env) : List Nat → List RK → List Nat
  | t :: ts, .own _ :: rs => match lk t env with
    | some (.at_ n _) => n :: resNames env ts rs
    | _ => resNames env ts rs
  | t :: ts, .ptr _ :: rs => match lk t env with
    | some (.loc n _) => n :: resNames env ts rs
    | _ => resNames env ts rs
  | _ :: ts, _ :: rs => resNames env ts rs
  | _, _ => []

def finR : List Nat → (rs : List RK) → St → Option (ResT rs × St)
  | [], [], s => some ((), s)
  | t :: ts, .val τ :: rs, s => (lk t s.env).bind fun e => (e.take fun n => lk n s.pl).bind fun y => match y.1 with
    | ⟨ty, some v⟩ => if τ.pure then (cv ty τ).bind fun f => (finR ts rs (applyU y.2 s)).map fun z => ((f v, z.1), z.2) else none
    | _ => none
  | t :: ts, .own τ :: rs, s => (lk t s.env).bind fun e => match e with
    | .at_ n [] => if Nat.beq (n % 2) 0 then (finR ts rs s).bind fun z => (lk n z.2.pl).bind fun d => (cv d.ty τ).map fun f => ((f d.val, z.1), z.2) else none
    | .val d => (cv d.ty τ).bind fun f => (finR ts rs s).map fun z => ((f d.val, z.1), z.2)
    | _ => none
  | t :: ts, .ptr τ :: rs, s => (lk t s.env).bind fun e => match e with
    | .loc n [] => if Nat.beq (n % 2) 0 then (finR ts rs s).bind fun z => (lk n z.2.pl).bind fun d => (cv d.ty τ).map fun f => ((f d.val, z.1), z.2) else none
    | _ => none
  | _, _, _ => none

def finO (pl : Pl) : Nat → (l : List Ty) → Option (ObjT l)
  | _, [] => some ()
  | k, τ :: l => (lk (objName k) pl).bind fun d => (cv d.ty τ).bind fun f => (finO pl (k + 1) l).map fun z => (f d.val, z)

def fin (S : Sig) (ts : List Nat) (s : St) : Option (ResT S.res × ObjT S.outs) :=
  if nodupN (resNames s.env ts S.res) then (finR ts S.res s).bind fun z => (finO z.2.pl 0 S.outs).map fun o => (z.1, o) else none

/-- a function's plain form, as its body gives it -/
def runF (C : Cfg) (S : Sig) (c : Code) (ts : List Nat) (x : ArgT S.args) : Option (ResT S.res × ObjT S.outs) :=
  evalCode C c 0 (entry S.args x) (fin S ts) [] (fin S ts)

end
end Go.Pv
