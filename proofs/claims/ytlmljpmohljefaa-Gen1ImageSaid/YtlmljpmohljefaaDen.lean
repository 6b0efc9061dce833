/- The abstract evaluator: it runs loaded code on abstract values. -/
import Derived.Calls
import Derived.Orders
import Derived.KernelRfl
import Derived.Laws.Sem
import Derived.Laws.BytesArg
import GoSem.Core.Layout
set_option linter.unusedVariables false
set_option linter.unusedSimpArgs false
namespace Go.Den
noncomputable section

inductive Ty where
  | bool | int (k : IntKind) | str | sl (t : Ty) | arr (n : Nat) (t : Ty) | unit | pair (a b : Ty)
  deriving DecidableEq

@[reducible] def Ty.I : Ty → Type
  | .bool => Bool
  | .int _ => Int
  | .str => ByteArray
  | .sl t => List t.I
  | .arr _ t => List t.I
  | .unit => Unit
  | .pair a b => a.I × b.I

/-- cells of a value; arrays stand alone -/
def Ty.sz : Ty → Nat
  | .unit => 0
  | .pair a b => a.sz + b.sz
  | _ => 1

/-- no arrays inside, and at least one cell -/
def Ty.flat : Ty → Bool
  | .bool => true
  | .int _ => true
  | .str => true
  | .sl t => t.flat
  | .arr _ _ => false
  | .unit => false
  | .pair a b => a.flat && b.flat

def zeroI : (t : Ty) → t.I
  | .bool => false
  | .int _ => (0 : Int)
  | .str => (⟨#[]⟩ : ByteArray)
  | .sl _ => []
  | .arr n t => List.replicate n (zeroI t)
  | .unit => ()
  | .pair a b => (zeroI a, zeroI b)

inductive AV where
  | d (t : Ty) (x : t.I)
  | ptr (n off : Nat)
  | eptr (n : Nat) (i : Int) (off : Nat)
  | dp (cs : List AV)
  | pnil | nilsl | nilf | nili
  | row (n : Nat)
  | fn (f : Fn) (first caps : List AV)
  | agg (cs : List AV)
  | tup (vs : List AV)
  | dead

inductive Obj where
  | box (cs : List AV)
  | row (e : Nat) (t : Ty) (l : List t.I) (frz : Bool)
  | arr (n : Nat) (t : Ty) (l : List t.I)
  | gone

inductive K where
  | bool | int (k : IntKind) | str | ptr (e : Nat) | sl (e : Nat) | arr (n e : Nat) | struct (fs : List (Nat × Nat)) | func | other

structure TD where
  k : K
  sz : Nat
  nb : Nat
  ty : Option Ty
  zero : List AV
  eq : Bool

abbrev Objs := Nat → Option Obj
structure St where
  s : List AV
  o : Objs
  m : Nat

inductive Ex where
  | normal | exit (id : Nat) | ret

def ofL : List (Nat × Obj) → Objs
  | [], _ => none
  | (k, x) :: l, n => if n = k then some x else ofL l n

def upd (o : Objs) (n : Nat) (x : Obj) : Objs := fun m => if m = n then some x else o m

def leaves : (t : Ty) → t.I → List AV
  | .pair a b, x => leaves a x.1 ++ leaves b x.2
  | .unit, _ => []
  | .bool, x => [.d .bool x]
  | .int k, x => [.d (.int k) x]
  | .str, x => [.d .str x]
  | .sl t, x => [.d (.sl t) x]
  | .arr n t, x => [.d (.arr n t) x]

/-- one cell each -/
def leaf1 : AV → Bool
  | .d .bool _ => true
  | .d (.int _) _ => true
  | .d .str _ => true
  | .d (.sl _) _ => true
  | .d _ _ => false
  | .agg _ => false
  | .tup _ => false
  | .dead => false
  | _ => true

section
variable {R : Type}

def leafK (t : Ty) (cs : List AV) (κ : t.I → List AV → Option R) : Option R :=
  match cs with
  | .d t' x :: rest => if h : t' = t then κ (h ▸ x) rest else none
  | _ => none

def slK (t : Ty) (cs : List AV) (κ : List t.I → List AV → Option R) : Option R :=
  match cs with
  | .nilsl :: rest => κ [] rest
  | cs => leafK (.sl t) cs κ

def packK : (t : Ty) → List AV → (t.I → List AV → Option R) → Option R
  | .pair a b, cs, κ => packK a cs fun x cs => packK b cs fun y cs => κ (x, y) cs
  | .unit, cs, κ => κ () cs
  | .sl t, cs, κ => slK t cs κ
  | .bool, cs, κ => leafK .bool cs κ
  | .int k, cs, κ => leafK (.int k) cs κ
  | .str, cs, κ => leafK .str cs κ
  | .arr n t, cs, κ => leafK (.arr n t) cs κ

def getS (s : List AV) (t : Nat) : AV := s.getD t .dead

/-- a value that the kernel does not look into -/
def veil {α : Type} (x : α) : α := (Classical.choice (⟨⟨x, rfl⟩⟩ : Nonempty {y : α // y = x})).1
theorem veil_eq {α : Type} (x : α) : veil x = x := (Classical.choice (⟨⟨x, rfl⟩⟩ : Nonempty {y : α // y = x})).2

/-- a great number is veiled: the kernel counts by one -/
def constV : Value → AV
  | .bool b => .d .bool b
  | .int k n => if 65536 ≤ n.natAbs then .d (.int k) (veil n) else .d (.int k) n
  | .string b => .d .str b
  | .pointer none => .pnil
  | .slice none 0 0 => .nilsl
  | .nilFunc => .nilf
  | .nilIface => .nili
  | _ => .dead

def rho (s : List AV) : Operand → AV
  | .tmp t => getS s t
  | .const v => constV v
  | .func f => .fn (.func f) [] []
  | .global _ => .dead

def idx {α : Type} (l : List α) (i : Int) : Option α := if 0 ≤ i then l[i.toNat]? else none

def nm (dst j : Nat) : Nat := (dst + 2) * 64 + j

/-- a new object -/
def newK (o : Objs) (n : Nat) (x : Obj) (κ : Objs → Option R) : Option R :=
  match o n with
  | none => κ (upd o n x)
  | some _ => none

/-- rows among the cells become data; they are not stored into any more -/
def resolveK : List AV → Objs → (List AV → Objs → Option R) → Option R
  | [], o, κ => κ [] o
  | .row n :: rest, o, κ => match o n with
    | some (.row e t l _) => resolveK rest (upd o n (.row e t l true)) fun cs o => κ (.d (.sl t) l :: cs) o
    | _ => none
  | c :: rest, o, κ => resolveK rest o fun cs o => κ (c :: cs) o

def cellsOf : AV → List AV
  | .agg cs => cs
  | v => [v]

def headK (cs : List AV) (κ : AV → Option R) : Option R :=
  match cs with
  | c :: _ => κ c
  | [] => none

def fromCells (Θ : Nat → TD) (t : Nat) (cs : List AV) (κ : AV → Option R) : Option R :=
  match (Θ t).k with
  | .struct _ => if (Θ t).sz ≤ cs.length then κ (.agg (cs.take (Θ t).sz)) else none
  | .arr _ _ => none
  | .other => none
  | _ => headK cs κ

def putCells : List AV → Nat → List AV → List AV
  | cs, _, [] => cs
  | [], _, _ => []
  | _ :: cs, 0, v :: vs => v :: putCells cs 0 vs
  | c :: cs, n + 1, vs => c :: putCells cs n vs

def loadK (Θ : Nat → TD) (t : Nat) (x : AV) (o : Objs) (κ : AV → Option R) : Option R :=
  match x with
  | .ptr n off => match o n with
    | some (.box cs) => fromCells Θ t (cs.drop off) κ
    | some (.arr m e l) => match (Θ t).k with
      | .arr _ _ => if off = 0 ∧ (Θ t).sz = m * e.sz then κ (.d (.arr m e) l) else none
      | _ => none
    | _ => none
  | .dp cs => fromCells Θ t cs κ
  | .eptr n i off => match o n with
    | some (.row _ e l _) => match idx l i with
      | some x => fromCells Θ t ((leaves e x).drop off) κ
      | none => none
    | some (.arr _ e l) => match idx l i with
      | some x => fromCells Θ t ((leaves e x).drop off) κ
      | none => none
    | _ => none
  | _ => none

def okK (k : K) : Bool :=
  match k with
  | .other => false
  | _ => true

def storeK (Θ : Nat → TD) (t : Nat) (x v : AV) (o : Objs) (κ : Objs → Option R) : Option R :=
  match x with
  | .ptr n off => match o n with
    | some (.box cs) => if okK (Θ t).k = true ∧ (cellsOf v).length = (Θ t).sz ∧ off + (cellsOf v).length ≤ cs.length ∧ (cellsOf v).all leaf1 = true then κ (upd o n (.box (putCells cs off (cellsOf v)))) else none
    | some (.arr m e l) => match v with
      | .d (.arr m' e') l' => if h : e' = e then (if okK (Θ t).k = true ∧ off = 0 ∧ (Θ t).sz = m * e.sz ∧ m' = m then κ (upd o n (.arr m e (h ▸ l'))) else none) else none
      | _ => none
    | _ => none
  | .eptr n i off => if (cellsOf v).all leaf1 = true then resolveK (cellsOf v) o fun vs o => match o n with
    | some (.row el e l false) => match idx l i with
      | some x => if okK (Θ t).k = true ∧ vs.length = (Θ t).sz ∧ off + vs.length ≤ e.sz then
          packK e (putCells (leaves e x) off vs) fun y _ => κ (upd o n (.row el e (l.set i.toNat y) false))
        else none
      | none => none
    | some (.arr m e l) => match idx l i with
      | some x => if okK (Θ t).k = true ∧ vs.length = (Θ t).sz ∧ off + vs.length ≤ e.sz then
          packK e (putCells (leaves e x) off vs) fun y _ => κ (upd o n (.arr m e (l.set i.toNat y)))
        else none
      | none => none
    | _ => none
    else none
  | _ => none

def bits (op : BinOp) (k : IntKind) (x y : Int) : Int :=
  let a := BitVec.ofInt k.bits x
  let b := BitVec.ofInt k.bits y
  match op with
  | .and => k.wrap (a &&& b).toNat
  | .or => k.wrap (a ||| b).toNat
  | .xor => k.wrap (a ^^^ b).toNat
  | _ => k.wrap (a &&& ~~~b).toNat

def intK (op : BinOp) (k : IntKind) (x y : Int) (κ : AV → Option R) : Option R :=
  match op with
  | .add => κ (.d (.int k) (k.wrap (x + y)))
  | .sub => κ (.d (.int k) (k.wrap (x - y)))
  | .mul => κ (.d (.int k) (k.wrap (x * y)))
  | .quo => if y = 0 then none else κ (.d (.int k) (k.wrap (x.tdiv y)))
  | .rem => if y = 0 then none else κ (.d (.int k) (x.tmod y))
  | .and => κ (.d (.int k) (bits .and k x y))
  | .or => κ (.d (.int k) (bits .or k x y))
  | .xor => κ (.d (.int k) (bits .xor k x y))
  | .andNot => κ (.d (.int k) (bits .andNot k x y))
  | .eql => κ (.d .bool (x == y))
  | .neq => κ (.d .bool (x != y))
  | .lss => κ (.d .bool (decide (x < y)))
  | .leq => κ (.d .bool (decide (x ≤ y)))
  | .gtr => κ (.d .bool (decide (x > y)))
  | .geq => κ (.d .bool (decide (x ≥ y)))
  | _ => none

def shiftK (left : Bool) (k : IntKind) (a b : Int) (κ : AV → Option R) : Option R :=
  if b < 0 then none else if left then κ (.d (.int k) (k.wrap (a * 2 ^ (min b.toNat k.bits)))) else κ (.d (.int k) (a.fdiv (2 ^ (min b.toNat k.bits))))

def nilEq (op : BinOp) (c : Bool) (κ : AV → Option R) : Option R :=
  match op with
  | .eql => κ (.d .bool c)
  | .neq => κ (.d .bool (!c))
  | _ => none

/-- '==' of structs of plain cells: the fields' types, and the cells -/
def eqK (Θ : Nat → TD) : Nat → List (Nat × Nat) → List AV → List AV → (Bool → Option R) → Option R
  | _, [], [], [], κ => κ true
  | k, (off, t) :: fs, a :: as, b :: bs, κ => if off = k then
      match (Θ t).k with
      | .bool => match a, b with
        | .d .bool x, .d .bool y => eqK Θ (k + 1) fs as bs fun c' => κ (if x == y then c' else false)
        | _, _ => none
      | .int _ => match a, b with
        | .d (.int k1) x, .d (.int k2) y => if k1 = k2 then eqK Θ (k + 1) fs as bs fun c' => κ (if x == y then c' else false) else none
        | _, _ => none
      | .str => match a, b with
        | .d .str x, .d .str y => eqK Θ (k + 1) fs as bs fun c' => κ (if x.toList == y.toList then c' else false)
        | _, _ => none
      | _ => none
    else none
  | _, _, _, _, _ => none

def isPtrK (k : K) : Bool :=
  match k with
  | .ptr _ => true
  | _ => false

def binK (Θ : Nat → TD) (op : BinOp) (t : Nat) (x y : AV) (κ : AV → Option R) : Option R :=
  match x, y with
  | .d (.int k) a, .d (.int k') b => match op with
    | .shl => shiftK true k a b κ
    | .shr => shiftK false k a b κ
    | op => if k = k' then intK op k a b κ else none
  | .d .bool a, .d .bool b => match (Θ t).k with
    | .bool => nilEq op (a == b) κ
    | _ => none
  | .d .str a, .d .str b => match op with
    | .add => if a.size + b.size ≤ 1099511627776 then κ (.d .str (a ++ b)) else none
    | .eql => κ (.d .bool (a.toList == b.toList))
    | .neq => κ (.d .bool (!(a.toList == b.toList)))
    | .lss => κ (.d .bool (Op.bytesLess a.toList b.toList))
    | _ => none
  | .ptr _ _, .pnil => if isPtrK (Θ t).k then nilEq op false κ else none
  | .eptr _ _ _, .pnil => if isPtrK (Θ t).k then nilEq op false κ else none
  | .dp _, .pnil => if isPtrK (Θ t).k then nilEq op false κ else none
  | .pnil, .pnil => if isPtrK (Θ t).k then nilEq op true κ else none
  | .agg cs, .agg ds => match (Θ t).k with
    | .struct fs => if (Θ t).eq = true then eqK Θ 0 fs cs ds fun c => nilEq op c κ else none
    | _ => none
  | _, _ => none

def bytesOf (s : ByteArray) : List Int := s.data.toList.map fun b => (b.toNat : Int)
@[reducible] def strOf (l : List Int) : ByteArray := strOfNums l

def lim : Nat := 1099511627776

def szOk (Θ : Nat → TD) (e n : Nat) : Bool := okK (Θ e).k && (Θ e).sz == n

/-- the element type of a slice type -/
def elemTy (Θ : Nat → TD) (t : Nat) : Option (Nat × Ty) :=
  match (Θ t).k with
  | .sl e => match (Θ e).ty with
    | some te => if (Θ e).sz = te.sz ∧ 0 < (Θ e).nb then some (e, te) else none
    | none => none
  | _ => none

/-- the elements of what is appended, or copied -/
def elemsK (t : Ty) (y : AV) (o : Objs) (κ : List t.I → Option R) : Option R :=
  match y with
  | .d (.sl t') l => if h : t' = t then κ (h ▸ l) else none
  | .row n => match o n with
    | some (.row _ t' l _) => if h : t' = t then κ (h ▸ l) else none
    | _ => none
  | .nilsl => κ []
  | .d .str s => if h : Ty.int .u8 = t then κ (h ▸ bytesOf s) else none
  | _ => none

def appendK (Θ : Nat → TD) (e : Nat) (t : Ty) (dst : Nat) (x y : AV) (o : Objs) (κ : AV → Objs → Option R) : Option R :=
  elemsK t y o fun ys =>
  match x with
  | .nilsl => if (ys.length) * (Θ e).nb ≤ lim then newK o (nm dst 0) (.row e t ys false) fun o => κ (.row (nm dst 0)) o else none
  | .row n => match o n with
    | some (.row e' t' l frz) => if h : t' = t then
        if e' = e then
          if (l.length + ys.length) * (Θ e).nb ≤ lim then newK (upd o n .gone) (nm dst 0) (.row e t ((h ▸ l) ++ ys) frz) fun o => κ (.row (nm dst 0)) o else none
        else none
      else none
    | _ => none
  | _ => none

/-- all that is copied fits -/
def copK (t : Ty) (x : AV) (o : Objs) (ys : List t.I) (κ : AV → Objs → Option R) : Option R :=
  match x with
  | .row n => match o n with
    | some (.row e t' l frz) => if h : t' = t then
        if frz = false ∧ ys.length ≤ l.length then κ (.d (.int .i64) (ys.length : Int)) (upd o n (.row e t (ys ++ (h ▸ l : List t.I).drop ys.length) false)) else none
      else none
    | _ => none
  | .nilsl => if ys.length = 0 then κ (.d (.int .i64) (ys.length : Int)) o else none
  | _ => none

def copyK (t : Ty) (x y : AV) (o : Objs) (κ : AV → Objs → Option R) : Option R := elemsK t y o fun ys => copK t x o ys κ

def lenK (x : AV) (o : Objs) (κ : AV → Option R) : Option R :=
  match x with
  | .d (.sl _) l => κ (.d (.int .i64) (l.length : Int))
  | .d .str s => κ (.d (.int .i64) (s.size : Int))
  | .nilsl => κ (.d (.int .i64) 0)
  | .row n => match o n with
    | some (.row _ _ l _) => κ (.d (.int .i64) (l.length : Int))
    | _ => none
  | _ => none

/-- a cut's bounds -/
def cutI (lo hi : Option Int) (n : Nat) (k : Nat → Nat → Option R) : Option R :=
  match lo, hi with
  | none, none => k 0 n
  | some a, none => if 0 ≤ a ∧ a ≤ (n : Int) then k a.toNat n else none
  | none, some b => if 0 ≤ b ∧ b ≤ (n : Int) then k 0 b.toNat else none
  | some a, some b => if 0 ≤ a ∧ a ≤ b ∧ b ≤ (n : Int) then k a.toNat b.toNat else none

def optI : Option AV → Option (Option Int)
  | none => some none
  | some (.d (.int _) a) => some (some a)
  | _ => none

def cutK (lo hi : Option AV) (n : Nat) (k : Nat → Nat → Option R) : Option R :=
  match optI lo, optI hi with
  | some lo, some hi => cutI lo hi n k
  | _, _ => none

def sliceK (Θ : Nat → TD) (tx : Nat) (x : AV) (lo hi : Option AV) (o : Objs) (κ : AV → Objs → Option R) : Option R :=
  match (Θ tx).k with
  | .str => match x with
    | .d .str s => cutK lo hi s.size fun a b => κ (.d .str (s.extract a b)) o
    | _ => none
  | .sl e => match x with
    | .d (.sl t) l => if szOk Θ e t.sz = true then cutK lo hi l.length fun a b => κ (.d (.sl t) ((l.take b).drop a)) o else none
    | .row n => match o n with
      | some (.row el t l _) => if szOk Θ e t.sz = true then cutK lo hi l.length fun a b => κ (.d (.sl t) ((l.take b).drop a)) (upd o n (.row el t l true)) else none
      | _ => none
    | _ => none
  | _ => none

def indexAddrK (Θ : Nat → TD) (tx : Nat) (x : AV) (i : Int) (o : Objs) (κ : AV → Option R) : Option R :=
  match (Θ tx).k with
  | .sl e => match x with
    | .d (.sl t) l => if szOk Θ e t.sz = true then
        match idx l i with
        | some y => κ (.dp (leaves t y))
        | none => none
      else none
    | .row n => match o n with
      | some (.row _ t l _) => if szOk Θ e t.sz = true then
          match idx l i with
          | some _ => κ (.eptr n i 0)
          | none => none
        else none
      | _ => none
    | _ => none
  | .arr m e => match x with
    | .ptr n 0 => match o n with
      | some (.arr m' t l) => if szOk Θ e t.sz = true ∧ m' = m then
          match idx l i with
          | some _ => κ (.eptr n i 0)
          | none => none
        else none
      | _ => none
    | _ => none
  | _ => none

def single : List AV → AV
  | [c] => c
  | cs => .agg cs

def indexK (Θ : Nat → TD) (tx : Nat) (x : AV) (i : Int) (κ : AV → Option R) : Option R :=
  match (Θ tx).k with
  | .str => match x with
    | .d .str s => match idx s.data.toList i with
      | some b => κ (.d (.int .u8) (b.toNat : Int))
      | none => none
    | _ => none
  | .arr m e => match x with
    | .d (.arr m' t) l => if m' = m ∧ szOk Θ e t.sz = true then
        match idx l i with
        | some y => fromCells Θ e (leaves t y) κ
        | none => none
      else none
    | _ => none
  | _ => none

def convK (Θ : Nat → TD) (src dst : Nat) (tdst : Nat) (x : AV) (o : Objs) (κ : AV → Objs → Option R) : Option R :=
  match (Θ src).k, (Θ dst).k, x with
  | .int _, .int k, .d (.int _) n => κ (.d (.int k) (k.wrap n)) o
  | .str, .str, .d .str s => κ (.d .str s) o
  | .str, .sl e, .d .str s => match (Θ e).k with
    | .int .u8 => κ (.d (.sl (.int .u8)) (bytesOf s)) o
    | _ => none
  | .sl e, .str, x => match (Θ e).k with
    | .int .u8 => match x with
      | .d .str _ => none
      | x => elemsK (.int .u8) x o fun l => κ (.d .str (strOf l)) o
    | _ => none
  | _, _, _ => none

def fillK (Θ : Nat → TD) (fs : List (Nat × Nat)) : List (Nat × AV) → List AV → (List AV → Option R) → Option R
  | [], cs, κ => κ cs
  | (i, v) :: rest, cs, κ => match fs[i]? with
    | some (off, ft) => if okK (Θ ft).k = true ∧ (cellsOf v).length = (Θ ft).sz ∧ off + (cellsOf v).length ≤ cs.length ∧ (cellsOf v).all leaf1 = true then
        fillK Θ fs rest (putCells cs off (cellsOf v)) κ else none
    | none => none

/-- the elements of a literal, in order -/
def partsK (t : Ty) : List (Nat × AV) → Objs → (List t.I → Objs → Option R) → Option R
  | [], o, κ => κ [] o
  | (_, v) :: rest, o, κ => if (cellsOf v).length = t.sz ∧ (cellsOf v).all leaf1 = true then
      resolveK (cellsOf v) o fun cs o => packK t cs fun x _ => partsK t rest o fun xs o => κ (x :: xs) o
    else none

def inOrder : Nat → List (Nat × AV) → Bool
  | _, [] => true
  | k, (i, _) :: rest => i == k && inOrder (k + 1) rest

def buildK (Θ : Nat → TD) (t : Nat) (parts : List (Nat × AV)) (o : Objs) (κ : AV → Objs → Option R) : Option R :=
  match (Θ t).k with
  | .struct fs => fillK Θ fs parts (Θ t).zero fun cs => κ (.agg cs) o
  | .arr n e => match (Θ e).ty with
    | some te => if inOrder 0 parts = true ∧ parts.length = n ∧ szOk Θ e te.sz = true ∧ (Θ t).sz = n * te.sz then partsK te parts o fun l o => κ (.d (.arr n te) l) o else none
    | none => none
  | _ => none

def nilCheckK (x : AV) (κ : AV → Option R) : Option R :=
  match x with
  | .ptr n off => κ (.ptr n off)
  | .eptr n i off => κ (.eptr n i off)
  | .dp cs => κ (.dp cs)
  | .fn (.func f) a b => κ (.fn (.func f) a b)
  | _ => none

def fieldOff (Θ : Nat → TD) (s f : Nat) : Option (Nat × Nat) :=
  match (Θ s).k with
  | .struct fs => match fs[f]? with
    | some (off, ft) => if (Θ ft).sz = 0 then none else some (off, ft)
    | none => none
  | _ => none

def fieldAddrK (off : Nat) (x : AV) (κ : AV → Option R) : Option R :=
  match x with
  | .ptr n a => κ (.ptr n (a + off))
  | .eptr n i a => κ (.eptr n i (a + off))
  | .dp cs => κ (.dp (cs.drop off))
  | _ => none

/- calls -/
inductive Mode where
  | dat (t : Ty) (ag : Bool) | own (e : Nat) (t : Ty) | raw | fz

def ofD (ag : Bool) (t : Ty) (x : t.I) : AV := if ag then .agg (leaves t x) else single (leaves t x)

structure Sum where
  modes : List Mode
  run : {R : Type} → List AV → List Obj → (List AV → List Obj → Option R) → Option R

mutual
def namesV : AV → List Nat
  | .ptr n _ => [n]
  | .eptr n _ _ => [n]
  | .row n => [n]
  | .fn _ a b => namesL a ++ namesL b
  | .agg cs => namesL cs
  | .tup cs => namesL cs
  | .dp cs => namesL cs
  | _ => []
def namesL : List AV → List Nat
  | [] => []
  | v :: vs => namesV v ++ namesL vs
end

def namesO : Obj → List Nat
  | .box cs => namesL cs
  | _ => []

/-- all names that the first ones lead to, in order -/
def gather (o : Objs) : Nat → List Nat → List Nat → List Nat
  | 0, _, acc => acc
  | _ + 1, [], acc => acc
  | k + 1, n :: todo, acc =>
    if acc.contains n then gather o k todo acc else
    match o n with
    | some x => gather o k (namesO x ++ todo) (acc ++ [n])
    | none => gather o k todo acc

def place (ns : List Nat) (n : Nat) : Option Nat :=
  let i := ns.findIdx (· == n)
  if i < ns.length then some i else none

mutual
def renV (f : Nat → Option Nat) : AV → AV
  | .ptr n off => match f n with | some m => .ptr m off | none => .dead
  | .eptr n i off => match f n with | some m => .eptr m i off | none => .dead
  | .row n => match f n with | some m => .row m | none => .dead
  | .fn g a b => .fn g (renL f a) (renL f b)
  | .agg cs => .agg (renL f cs)
  | .tup cs => .tup (renL f cs)
  | .dp cs => .dp (renL f cs)
  | .d t x => .d t x
  | .pnil => .pnil
  | .nilsl => .nilsl
  | .nilf => .nilf
  | .nili => .nili
  | .dead => .dead
def renL (f : Nat → Option Nat) : List AV → List AV
  | [] => []
  | v :: vs => renV f v :: renL f vs
end

def renO (f : Nat → Option Nat) : Obj → Obj
  | .box cs => .box (renL f cs)
  | x => x

def isAggV : AV → Bool
  | .agg _ => true
  | _ => false

/-- arguments, and results, as they are handed over -/
def prepK : List Mode → List AV → Nat → Objs → (List AV → Objs → Option R) → Option R
  | [], [], _, o, κ => κ [] o
  | m :: ms, v :: vs, j, o, κ => match m with
    | .own e t => match v with
      | .nilsl => if t.flat = true then newK o j (.row e t [] false) fun o => prepK ms vs (j + 1) o fun vs o => κ (.row j :: vs) o else none
      | v => prepK ms vs (j + 1) o fun vs o => κ (v :: vs) o
    | .raw => prepK ms vs (j + 1) o fun vs o => κ (v :: vs) o
    | .fz => match v with
      | .ptr n off => match o n with
        | some (.box cs) => resolveK cs o fun cs o => match o n with
          | some (.box _) => prepK ms vs (j + 1) (upd o n (.box cs)) fun vs o => κ (.ptr n off :: vs) o
          | _ => none
        | _ => none
      | _ => none
    | .dat t ag => if (cellsOf v).length = t.sz ∧ (cellsOf v).all leaf1 = true ∧ t.flat = true ∧ isAggV v = ag ∧ (ag = false → t.sz = 1) then
        resolveK (cellsOf v) o fun cs o => packK t cs fun x _ => prepK ms vs (j + 1) o fun vs o => κ (ofD ag t x :: vs) o
      else none
  | _, _, _, _, _ => none

/-- the names of a call's objects: those handed over, and new ones -/
def backO (ns : List Nat) (dst k : Nat) (n : Nat) : Option Nat := if n < ns.length then ns[n]? else if n < k then some (nm dst (n - ns.length)) else none

def setAll (f : Nat → Option Nat) : Nat → List Obj → Objs → Objs
  | _, [], o => o
  | j, x :: xs, o => match f j with
    | some n => setAll f (j + 1) xs (upd o n (renO f x))
    | none => setAll f (j + 1) xs o

def tupOf : List AV → AV
  | [v] => v
  | vs => .tup vs

/-- the names of what a call made are free -/
def freeK (o : Objs) (dst : Nat) : Nat → Bool
  | 0 => true
  | k + 1 => (o (nm dst k)).isNone && freeK o dst k

def objsAt (o : Objs) (f : Nat → Option Nat) : List Nat → (List Obj → Option R) → Option R
  | [], κ => κ []
  | n :: ns, κ => match o n with
    | some x => objsAt o f ns fun xs => κ (renO f x :: xs)
    | none => none

/-- each name has its place -/
def placeOk (ns : List Nat) : Nat → List Nat → Bool
  | _, [] => true
  | j, n :: l => (place ns n == some j) && placeOk ns (j + 1) l

def atL (l : List Obj) : Objs := fun n => l[n]?

def callK (S : Sum) (dst : Nat) (args : List AV) (o : Objs) (κ : AV → Objs → Option R) : Option R :=
  prepK S.modes args (nm dst 32) o fun args o =>
  let ns := gather o 200 (namesL args) []
  if placeOk ns 0 ns = true then
  objsAt o (place ns) ns fun objs =>
  S.run (renL (place ns) args) objs fun rs os =>
  if ns.length ≤ os.length ∧ freeK o dst (os.length - ns.length) = true then
    κ (renV (backO ns dst os.length) (tupOf rs)) (setAll (backO ns dst os.length) 0 os o)
  else none
  else none

def minI (x y : Int) : Int := if y < x then y else x
def maxI (x y : Int) : Int := if y > x then y else x

def builtinK (Θ : Nat → TD) (b : Builtin) (argTypes : List Nat) (dst : Nat) (args : List AV) (o : Objs) (κ : AV → Objs → Option R) : Option R :=
  match b, args with
  | .len, [x] => match argTypes with
    | [t0] => match (Θ t0).k with
      | .str => match x with
        | .d .str s => κ (.d (.int .i64) (s.size : Int)) o
        | _ => none
      | .arr n _ => κ (.d (.int .i64) (n : Int)) o
      | .sl _ => match x with
        | .d .str s => none
        | x => lenK x o fun v => κ v o
      | _ => none
    | _ => none
  | .append, [x, y] => match argTypes with
    | [t0, t1] => match elemTy Θ t0, (Θ t1).k with
      | some (e, t), .sl _ => appendK Θ e t dst x y o κ
      | some (e, t), .str => appendK Θ e t dst x y o κ
      | _, _ => none
    | _ => none
  | .copy, [x, y] => match argTypes with
    | [t0, _] => match elemTy Θ t0 with
      | some (_, t) => copyK t x y o κ
      | none => none
    | _ => none
  | .min, [.d (.int k) x, .d (.int k') y] => if k = k' then κ (.d (.int k) (minI x y)) o else none
  | .max, [.d (.int k) x, .d (.int k') y] => if k = k' then κ (.d (.int k) (maxI x y)) o else none
  | _, _ => none

structure LA where
  keep : List Nat
  prom : List (Nat × Nat × Ty)
  dat : List Nat

structure Env where
  Θ : Nat → TD
  Γ : Nat → Option Sum
  A : Nat → LA

def makeK (nb : Nat) (l c : Int) (k : Nat → Option R) : Option R :=
  if 0 ≤ l ∧ l ≤ c ∧ c * nb ≤ 1099511627776 ∧ c ≤ 1099511627776 then k l.toNat else none

def arrK (Θ : Nat → TD) (t : Nat) (κ : Nat → Ty → Option R) : Option R :=
  match (Θ t).k with
  | .arr n e => match (Θ e).ty with
    | some te => if (Θ e).sz = te.sz then κ n te else none
    | none => none
  | _ => none

def opK (E : Env) (op : Op) (dst : Nat) (s : List AV) (o : Objs) (κ : AV → Objs → Option R) : Option R :=
  match op with
  | .move x => κ (rho s x) o
  | .assign x => κ (rho s x) o
  | .pick c a b => match rho s c with
    | .d .bool c => if c then κ (rho s a) o else κ (rho s b) o
    | _ => none
  | .alloc t => match (E.Θ t).k with
    | .arr _ _ => arrK E.Θ t fun n te => newK o (nm dst 0) (.arr n te (List.replicate n (zeroI te))) fun o => κ (.ptr (nm dst 0) 0) o
    | .other => none
    | _ => newK o (nm dst 0) (.box (E.Θ t).zero) fun o => κ (.ptr (nm dst 0) 0) o
  | .box _ v => match rho s v with
    | .d (.arr n t) l => newK o (nm dst 0) (.arr n t l) fun o => κ (.ptr (nm dst 0) 0) o
    | v => if (cellsOf v).all leaf1 = true then newK o (nm dst 0) (.box (cellsOf v)) fun o => κ (.ptr (nm dst 0) 0) o else none
  | .build t parts => buildK E.Θ t (parts.toList.map fun p => (p.1, rho s p.2)) o κ
  | .buildSlice t len parts => match elemTy E.Θ t with
    | some (e, te) =>
      if inOrder 0 (parts.toList.map fun p => (p.1, rho s p.2)) = true ∧ parts.toList.length = len ∧ 0 < len ∧ len * (E.Θ e).sz ≤ 16777216 ∧ len * (E.Θ e).nb ≤ lim then
        partsK te (parts.toList.map fun p => (p.1, rho s p.2)) o fun l o => newK o (nm dst 0) (.row e te l false) fun o => κ (.row (nm dst 0)) o else none
    | none => none
  | .load t x => loadK E.Θ t (rho s x) o fun v => κ v o
  | .store t x v => storeK E.Θ t (rho s x) (rho s v) o fun o => κ .dead o
  | .nilCheck x => nilCheckK (rho s x) fun v => κ v o
  | .binOp op t x y _ => binK E.Θ op t (rho s x) (rho s y) fun v => κ v o
  | .unOp op _ x => match op, rho s x with
    | .not, .d .bool b => κ (.d .bool (!b)) o
    | .neg, .d (.int k) n => κ (.d (.int k) (k.wrap (0 - n))) o
    | .xor, .d (.int k) n => κ (.d (.int k) (bits .xor k (if k.signed then -1 else k.max) n)) o
    | _, _ => none
  | .convert src d x => convK E.Θ src d dst (rho s x) o κ
  | .makeFunc (.func f) first caps => κ (.fn (.func f) (first.toList.map (rho s)) (caps.toList.map (rho s))) o
  | .makeSlice t l c => match elemTy E.Θ t, rho s l, rho s c with
    | some (e, te), .d (.int .i64) l, .d (.int .i64) c => makeK (E.Θ e).nb l c fun n => newK o (nm dst 0) (.row e te (List.replicate n (zeroI te)) false) fun o => κ (.row (nm dst 0)) o
    | _, _, _ => none
  | .slice t x lo hi none => sliceK E.Θ t (rho s x) (lo.map (rho s)) (hi.map (rho s)) o κ
  | .fieldAddr t x f => match fieldOff E.Θ t f with
    | some (off, ft) => if okK (E.Θ ft).k = true then fieldAddrK off (rho s x) fun v => κ v o else none
    | none => none
  | .field t x f => match fieldOff E.Θ t f, rho s x with
    | some (off, ft), .agg cs => fromCells E.Θ ft (cs.drop off) fun v => κ v o
    | _, _ => none
  | .indexAddr t x i => match rho s i with
    | .d (.int _) i => indexAddrK E.Θ t (rho s x) i o fun v => κ v o
    | _ => none
  | .index t x i => match rho s i with
    | .d (.int _) i => indexK E.Θ t (rho s x) i fun v => κ v o
    | _ => none
  | .extract x i => match rho s x with
    | .tup vs => if i < vs.length then κ (vs.getD i .dead) o else none
    | _ => none
  | .call c => match c.callee with
    | .builtin b => builtinK E.Θ b c.argTypes.toList dst (c.args.toList.map (rho s)) o κ
    | .value f => match rho s f with
      | .fn (.func g) first caps => match E.Γ g with
        | some S => callK S dst (first ++ c.args.toList.map (rho s) ++ caps) o κ
        | none => none
      | _ => none
    | _ => none
  | _ => none

def putS (s : List AV) (dst : Option Nat) (v : AV) : List AV :=
  match dst with
  | some d => s.set d v
  | none => s

def denOps (E : Env) (all : List Oper) : List Oper → St → (St → Option R) → Option R
  | [], st, κ => κ st
  | op :: rest, st, κ => match op.guard with
    | none => opK E op.op (op.dst.getD 0) st.s st.o fun v o => denOps E all rest ⟨putS st.s op.dst v, o, st.m⟩ κ
    | some (j, want) => match (all[j]?).bind (·.dst) with
      | some g => match getS st.s g with
        | .d .bool c =>
          if c then
            (if want then opK E op.op (op.dst.getD 0) (st.s.set g (.d .bool true)) st.o fun v o => denOps E all rest ⟨putS (st.s.set g (.d .bool true)) op.dst v, o, st.m⟩ κ
             else denOps E all rest ⟨putS (st.s.set g (.d .bool true)) op.dst (.tup []), st.o, st.m⟩ κ)
          else
            (if want then denOps E all rest ⟨putS (st.s.set g (.d .bool false)) op.dst (.tup []), st.o, st.m⟩ κ
             else opK E op.op (op.dst.getD 0) (st.s.set g (.d .bool false)) st.o fun v o => denOps E all rest ⟨putS (st.s.set g (.d .bool false)) op.dst v, o, st.m⟩ κ)
        | .tup [] => denOps E all rest ⟨putS st.s op.dst (.tup []), st.o, st.m⟩ κ
        | _ => none
      | none => none

/- operations in any order -/
structure TE where
  i : Nat
  F : List Nat
  wr : Bool

/-- only reads -/
def isQ (E : Env) : Op → Bool
  | .move _ | .assign _ | .pick _ _ _ | .load _ _ | .nilCheck _ | .binOp _ _ _ _ _ | .unOp _ _ _ | .makeFunc _ _ _ | .fieldAddr _ _ _ | .field _ _ _ | .indexAddr _ _ _ | .index _ _ _ | .extract _ _ | .convert _ _ _ => true
  | .build t _ => match (E.Θ t).k with
    | .struct _ => true
    | _ => false
  | .call c => match c.callee with
    | .builtin .len => true
    | .builtin .min => true
    | .builtin .max => true
    | _ => false
  | _ => false

def preds (o : Oper) : List Nat := (o.after.toList.filter (Region.binds .any)).map (·.on)

/-- who comes ahead, as bits -/
def ancsGo : List Oper → List Nat → List Nat
  | [], acc => acc
  | o :: rest, acc => ancsGo rest (acc ++ [(preds o).foldl (fun m p => m ||| (1 <<< p) ||| acc.getD p 0) 0])

def ancs (ops : List Oper) : List Nat := ancsGo ops []

def anc (as : List Nat) (i j : Nat) : Bool := (as.getD j 0).testBit i

/-- what an operation looks at comes ahead of it, and nobody writes a slot twice -/
def slotsOk (all : Array Oper) (as : List Nat) : Bool :=
  (List.range all.size).all fun j => match all[j]? with
    | some oj => (preds oj).all (· < j) && (List.range all.size).all fun i => match all[i]? with
      | some oi => match oi.dst with
        | some d => (!((oj.looksAt all).contains d) || (anc as i j || (anc as j i || i == j))) && (i == j || oj.dst != some d)
        | none => true
      | none => true
    | none => true

def meets (F F' : List Nat) : Bool := F.any (F'.contains ·)

def clash (as : List Nat) (tr : List TE) (x : TE) : Bool := tr.any fun e => (x.wr || e.wr) && !anc as e.i x.i && meets x.F e.F

def onF (F : List Nat) (n : Nat) : Option Nat := if F.contains n then some n else none

def viewF (F : List Nat) (o : Objs) : Objs := fun n => if F.contains n then (o n).map (renO (onF F)) else none

def overF (F : List Nat) (a b : Objs) : Objs := fun n => if F.contains n then a n else b n

def footW (op : Op) (dst : Nat) (s : List AV) (o : Objs) : List Nat :=
  gather o 200 (namesL (op.operands.toList.map (rho s))) [] ++ (List.range 4).map (nm dst) ++ (List.range 4).map fun i => nm dst (32 + i)

/-- one operation, within what it touches -/
def opV (E : Env) (F : List Nat) (op : Op) (dst : Nat) (s : List AV) (o : Objs) (κ : AV → Objs → Option R) : Option R :=
  opK E op dst (renL (onF F) s) (viewF F o) fun v o' => κ (renV (onF F) v) (overF F (viewF F o') o)

def denD (E : Env) (all : Array Oper) (as : List Nat) : Nat → List Oper → St → List TE → (St → Option R) → Option R
  | _, [], st, _, κ => κ st
  | i, op :: rest, st, tr, κ =>
    let go : St → Option R := fun st =>
      if isQ E op.op = true then
        let x : TE := ⟨i, namesL (op.op.operands.toList.map (rho st.s)), false⟩
        if clash as tr x = false then opK E op.op (op.dst.getD 0) st.s st.o fun v _ => denD E all as (i + 1) rest ⟨putS st.s op.dst v, st.o, st.m⟩ (x :: tr) κ else none
      else
        let F := footW op.op (op.dst.getD 0) st.s st.o
        let x : TE := ⟨i, F, true⟩
        if clash as tr x = false then opV E F op.op (op.dst.getD 0) st.s st.o fun v o => denD E all as (i + 1) rest ⟨putS st.s op.dst v, o, st.m⟩ (x :: tr) κ else none
    let no : St → Option R := fun st => denD E all as (i + 1) rest ⟨putS st.s op.dst (.tup []), st.o, st.m⟩ tr κ
    match op.guard with
    | none => go st
    | some (j, want) => match (all[j]?).bind (·.dst) with
      | some g => match getS st.s g with
        | .d .bool c => if c then (if want then go ⟨st.s.set g (.d .bool true), st.o, st.m⟩ else no ⟨st.s.set g (.d .bool true), st.o, st.m⟩)
            else (if want then no ⟨st.s.set g (.d .bool false), st.o, st.m⟩ else go ⟨st.s.set g (.d .bool false), st.o, st.m⟩)
        | .tup [] => no st
        | _ => none
      | none => none

def namesOs (o : Objs) : Nat → List Nat
  | 0 => []
  | m + 1 => namesOs o m ++ (match o m with | some x => namesO x | none => [])

def promote : List (Nat × Nat × Ty) → List AV → Objs → (List AV → Objs → Option R) → Option R
  | [], s, o, κ => κ s o
  | (t, e, ty) :: rest, s, o, κ => if 1000 ≤ t then
      (match getS s ((t - 1000) / 64) with
      | .ptr n _ => match o n with
        | some (.box cs) => match cs[(t - 1000) % 64]? with
          | some .nilsl => if ty.flat = true then newK o (2000000 + t) (.row e ty [] false) fun o => promote rest s (upd o n (.box (cs.set ((t - 1000) % 64) (.row (2000000 + t))))) κ else none
          | _ => promote rest s o κ
        | _ => promote rest s o κ
      | _ => promote rest s o κ)
    else match getS s t with
    | .nilsl => if ty.flat = true then newK o (2000000 + t) (.row e ty [] false) fun o => promote rest (s.set t (.row (2000000 + t))) o κ else none
    | _ => promote rest s o κ

def mvF (n m k : Nat) : Option Nat := if k = n then some m else if k = m then none else some k

def mvO (n m : Nat) (o : Objs) : Objs := upd (fun j => if j = n then none else if j = m then (o n).map (renO (mvF n m)) else (o j).map (renO (mvF n m))) n .gone

/-- rows that are read as data from the head on; from 1000 on: an incoming row takes a new name -/
def datK : List Nat → List AV → Objs → (List AV → Objs → Option R) → Option R
  | [], s, o, κ => κ s o
  | t :: rest, s, o, κ => if 1000 ≤ t then
      (match o (t - 1000), o (4000000 + t) with
      | some (.row _ _ _ _), none => datK rest (renL (mvF (t - 1000) (4000000 + t)) s) (mvO (t - 1000) (4000000 + t) o) κ
      | _, _ => datK rest s o κ)
    else match getS s t with
    | .row n => match o n with
      | some (.row e ty l _) => datK rest (s.set t (.d (.sl ty) l)) (upd o n (.row e ty l true)) κ
      | _ => none
    | _ => datK rest s o κ

def canon (ns : List Nat) (m n : Nat) : Option Nat := if n < m then some n else (place ns n).map (64 + ·)

def keepS (keep : List Nat) : Nat → List AV → List AV
  | _, [] => []
  | j, v :: vs => (if keep.contains j then v else .dead) :: keepS keep (j + 1) vs

def live : Obj → Bool
  | .gone => false
  | _ => true

def pickO (f : Nat → Option Nat) (o : Objs) : List Nat → List (Nat × Obj)
  | [] => []
  | n :: ns => match f n, o n with
    | some j, some x => (j, renO f x) :: pickO f o ns
    | _, _ => pickO f o ns

/-- what a loop's head knows -/
def tidyK (A : LA) (st : St) (κ : St → Option R) : Option R :=
  promote A.prom st.s st.o fun s1 o1 =>
  datK A.dat s1 o1 fun s0 o =>
  let s := keepS A.keep 0 s0
  let ns := (gather o 200 (namesOs o st.m ++ namesL s) []).filter (64 ≤ ·)
  let f := canon ns st.m
  if st.m ≤ 64 ∧ placeOk ns 0 ns = true then κ ⟨renL f s, ofL (pickO f o (List.range st.m ++ ns)), st.m⟩ else none

def rid : Code → Nat
  | .region id _ _ => id
  | .seq a _ => rid a
  | .block _ b => rid b
  | .loop b => rid b
  | .scope b => rid b
  | _ => 0

abbrev BodyK (R : Type) := St → (Ex → St → Option R) → Option R

def againK (AG : St → Option R) (κ : Ex → St → Option R) : Ex → St → Option R := fun e st' =>
  match e with
  | .normal => AG st'
  | e => κ e st'

def loopN (A : LA) (body : BodyK R) : Nat → St → (Ex → St → Option R) → Option R
  | 0, _, _ => none
  | k + 1, st, κ => body st (againK (fun st' => tidyK A st' fun st' => loopN A body k st' κ) κ)

abbrev LoopK (R : Type) := LA → BodyK R → Nat → St → (Ex → St → Option R) → Option R

def denC (E : Env) (L : LoopK R) (fuel : Nat) : Code → St → (Ex → St → Option R) → Option R
  | .skip, st, κ => κ .normal st
  | .region _ ops draw, st, κ =>
    if draw then (if slotsOk ops (ancs ops.toList) = true then denD E ops (ancs ops.toList) 0 ops.toList st [] fun st => κ .normal st else none)
    else denOps E ops.toList ops.toList st fun st => κ .normal st
  | .seq a b, st, κ => denC E L fuel a st fun e st => match e with
    | .normal => denC E L fuel b st κ
    | e => κ e st
  | .cond c a b, st, κ => match rho st.s c with
    | .d .bool c => if c then denC E L fuel a st κ else denC E L fuel b st κ
    | _ => none
  | .block id b, st, κ => denC E L fuel b st fun e st => match e with
    | .exit id' => if id' = id then κ .normal st else κ (.exit id') st
    | e => κ e st
  | .loop b, st, κ => tidyK (E.A (rid b)) st fun st => L (E.A (rid b)) (fun st κ => denC E L fuel b st κ) fuel st κ
  | .exit id, st, κ => κ (.exit id) st
  | .ret, st, κ => κ .ret st
  | .label _, st, κ => κ .normal st
  | _, _, _ => none

def resK (Θ : Nat → TD) (st : St) : List ResultVar → (List AV → Option R) → Option R
  | [], κ => κ []
  | .tmp t :: rest, κ => resK Θ st rest fun vs => κ (getS st.s t :: vs)
  | .cell a t :: rest, κ => loadK Θ t (getS st.s a) st.o fun v => resK Θ st rest fun vs => κ (v :: vs)

def outF (m : Nat) (o : Objs) (rs : List AV) (κ : List AV → List Obj → Option R) : Option R :=
  let ns := List.range m ++ (gather o 200 (namesOs o m ++ namesL rs) []).filter (m ≤ ·)
  if placeOk ns 0 ns = true then objsAt o (place ns) ns fun objs => κ (renL (place ns) rs) objs else none

def topK (E : Env) (fn : Func) (ms : List Mode) (m : Nat) (κ : List AV → List Obj → Option R) : Ex → St → Option R := fun e st =>
  match e with
  | .exit _ => none
  | _ => resK E.Θ st fn.results.toList fun rs => prepK ms rs 3000000 st.o fun rs o => outF m o rs κ

def bodyC (fn : Func) : Code :=
  match fn.body with
  | some c => c
  | none => .refuse ""

def denF (E : Env) (L : LoopK R) (fuel : Nat) (fn : Func) (ms : List Mode) (args : List AV) (objs : List Obj) (κ : List AV → List Obj → Option R) : Option R :=
  denC E L fuel (bodyC fn) ⟨args ++ List.replicate (fn.ntmps - args.length) .dead, atL objs, objs.length⟩ (topK E fn ms objs.length κ)

/- places of loops in code -/
def has : Code → Nat → Bool
  | .seq a b, i => has a i || has b i
  | .cond _ a b, i => has a i || has b i
  | .block _ b, i => has b i
  | .loop b, i => rid b == i || has b i
  | _, _ => false

def loopBody : Code → Nat → Code
  | .seq a b, i => if has a i then loopBody a i else loopBody b i
  | .cond _ a b, i => if has a i then loopBody a i else loopBody b i
  | .block _ b, i => loopBody b i
  | .loop b, i => if rid b == i then b else loopBody b i
  | c, _ => c

def kontI (E : Env) (L : LoopK R) (fuel : Nat) : Code → Nat → List Nat → (Ex → St → Option R) → (Ex → St → Option R)
  | .seq a b, i, ks, κ => if has a i then kontI E L fuel a i ks (fun e st => match e with
      | .normal => denC E L fuel b st κ
      | e => κ e st) else kontI E L fuel b i ks κ
  | .cond _ a b, i, ks, κ => if has a i then kontI E L fuel a i ks κ else kontI E L fuel b i ks κ
  | .block id b, i, ks, κ => kontI E L fuel b i ks (fun e st => match e with
      | .exit id' => if id' = id then κ .normal st else κ (.exit id') st
      | e => κ e st)
  | .loop b, i, ks, κ => if rid b == i then κ else
      kontI E L fuel b i ks.tail (againK (fun st' => tidyK (E.A (rid b)) st' fun st' => loopN (E.A (rid b)) (fun st κ => denC E L fuel b st κ) (ks.headD 0) st' κ) κ)
  | _, _, _, κ => κ

/-- the loop i of a function, from its head on -/
def lp (E : Env) (fuel : Nat) (fn : Func) (ms : List Mode) (m : Nat) (κ : List AV → List Obj → Option R) (i : Nat) (ks : List Nat) (k : Nat) (st : St) : Option R :=
  loopN (E.A i) (fun st κ => denC E loopN fuel (loopBody (bodyC fn) i) st κ) k st (kontI E loopN fuel (bodyC fn) i ks (topK E fn ms m κ))
end

def zeroAV : Value → AV
  | .slice none 0 0 => .nilsl
  | v => constV v

mutual
def tyOf (P : Program) : Nat → TypeId → Option Ty
  | 0, _ => none
  | k + 1, t => match P.underlying t with
    | some .bool => some .bool
    | some (.int k) => some (.int k)
    | some .string => some .str
    | some (.slice e) => (tyOf P k e).map .sl
    | some (.struct fs) => tyFs P k (fs.toList.map (·.type))
    | _ => none
def tyFs (P : Program) : Nat → List TypeId → Option Ty
  | 0, _ => none
  | _ + 1, [] => none
  | k + 1, [t] => tyOf P k t
  | k + 1, t :: ts => match tyOf P k t, tyFs P k ts with
    | some a, some b => some (.pair a b)
    | _, _ => none
end

def kOf : TypeDesc → K
  | .bool => .bool
  | .int k => .int k
  | .string => .str
  | .pointer e => .ptr e
  | .slice e => .sl e
  | .array n e => .arr n e
  | .struct fs => .struct (fs.toList.map fun f => (f.offset, f.type))
  | .func .. => .func
  | _ => .other

def zeroL (z : Option Value) : List AV :=
  match z with
  | some v => v.cells.toList.map zeroAV
  | none => []

def eqD (P : Program) (t : TypeId) (d : TypeDesc) : Bool :=
  match d with
  | .struct fs => !P.eqGuardType P.depth t && !P.stoodInHeld t && fs.toList.all (fun f => f.name != "_")
  | _ => false

def tdOf (P : Program) (t : TypeId) : TD :=
  match P.info? t, P.underlying t with
  | some i, some d => { k := kOf d, sz := i.size, nb := i.bytes, ty := tyOf P 40 t, zero := zeroL i.zero, eq := eqD P t d }
  | _, _ => { k := .other, sz := 0, nb := 0, ty := none, zero := [], eq := false }
end
end Go.Den
