/- The evaluator, Ev1. -/
import Derived.Calls
import Derived.Scope
import Derived.Orders
import Derived.KernelRfl
import Derived.Laws.Sem
import Derived.Laws.BytesArg
import GoSem.Core.Layout
import Derived.Test.YtgaakgeemnkeeaaGreatDoorGt
set_option linter.unusedVariables false
set_option linter.unusedSimpArgs false
namespace Go.Den
noncomputable section
inductive Ty where
 | bool | int (k : IntKind) | str | sl (t : Ty) | arr (n : Nat) (t : Ty) | unit | pair (a b : Ty)
 deriving DecidableEq
@[reducible] def Ty.I : Ty → Type
 | .bool => Bool
 | .int _ => Int
 | .str => ByteArray
 | .sl t => List t.I
 | .arr _ t => List t.I
 | .unit => Unit
 | .pair a b => a.I × b.I
def Ty.sz : Ty → Nat
 | .unit => 0
 | .pair a b => a.sz + b.sz
 | _ => 1
def Ty.flat : Ty → Bool
 | .bool => true
 | .int _ => true
 | .str => true
 | .sl t => t.flat
 | .arr _ _ => false
 | .unit => false
 | .pair a b => a.flat && b.flat
def zeroI : (t : Ty) → t.I
 | .bool => false
 | .int _ => (0 : Int)
 | .str => (⟨#[]⟩ : ByteArray)
 | .sl _ => []
 | .arr n t => List.replicate n (zeroI t)
 | .unit => ()
 | .pair a b => (zeroI a, zeroI b)
inductive AV where
 | d (t : Ty) (x : t.I)
 | ptr (n off : Nat)
 | eptr (n : Nat) (i : Int) (off : Nat)
 | dp (cs : List AV)
 | pnil | nilsl | nilf | nili
 | row (n : Nat)
 | win (n a b : Nat)
 | glob (n : Nat)
 | fn (f : Fn) (first caps : List AV)
 | agg (cs : List AV)
 | tup (vs : List AV)
 | dead
inductive Obj where
 | box (cs : List AV)
 | row (e : Nat) (t : Ty) (l : List t.I) (frz : Bool)
 | arr (n : Nat) (t : Ty) (l : List t.I)
 | bld (T : Nat) (c : AV)
 | gone
inductive K where
 | bool | int (k : IntKind) | str | ptr (e : Nat) | sl (e : Nat) | arr (n e : Nat) | struct (fs : List (Nat × Nat)) | func | other
structure TD where
 k : K
 sz : Nat
 nb : Nat
 ty : Option Ty
 zero : List AV
 eq : Bool
abbrev Objs := Nat → Option Obj
structure St where
 s : List AV
 o : Objs
 m : Nat
inductive Ex where
 | normal | exit (id : Nat) | ret
def ofL : List (Nat × Obj) → Objs
 | [], _ => none
 | (k, x) :: l, n => if n = k then some x else ofL l n
def upd (o : Objs) (n : Nat) (x : Obj) : Objs := fun m => if m = n then some x else o m
def leaves : (t : Ty) → t.I → List AV
 | .pair a b, x => leaves a x.1 ++ leaves b x.2
 | .unit, _ => []
 | .bool, x => [.d .bool x]
 | .int k, x => [.d (.int k) x]
 | .str, x => [.d .str x]
 | .sl t, x => [.d (.sl t) x]
 | .arr n t, x => [.d (.arr n t) x]
def leaf1 : AV → Bool
 | .d .bool _ => true
 | .d (.int _) _ => true
 | .d .str _ => true
 | .d (.sl _) _ => true
 | .d _ _ => false
 | .agg _ => false
 | .tup _ => false
 | .dead => false
 | .win _ _ _ => false
 | .glob _ => false
 | _ => true
section
variable {R : Type}
def leafK (t : Ty) (cs : List AV) (κ : t.I → List AV → Option R) : Option R :=
 match cs with
 | .d t' x :: rest => if h : t' = t then κ (h ▸ x) rest else none
 | _ => none
def slK (t : Ty) (cs : List AV) (κ : List t.I → List AV → Option R) : Option R :=
 match cs with
 | .nilsl :: rest => κ [] rest
 | cs => leafK (.sl t) cs κ
def packK : (t : Ty) → List AV → (t.I → List AV → Option R) → Option R
 | .pair a b, cs, κ => packK a cs fun x cs => packK b cs fun y cs => κ (x, y) cs
 | .unit, cs, κ => κ () cs
 | .sl t, cs, κ => slK t cs κ
 | .bool, cs, κ => leafK .bool cs κ
 | .int k, cs, κ => leafK (.int k) cs κ
 | .str, cs, κ => leafK .str cs κ
 | .arr n t, cs, κ => leafK (.arr n t) cs κ
def getS (s : List AV) (t : Nat) : AV := s.getD t .dead
def veil {α : Type} (x : α) : α := (Classical.choice (⟨⟨x, rfl⟩⟩ : Nonempty {y : α // y = x})).1
theorem veil_eq {α : Type} (x : α) : veil x = x := (Classical.choice (⟨⟨x, rfl⟩⟩ : Nonempty {y : α // y = x})).2
def constV : Value → AV
 | .bool b => .d .bool b
 | .int k n => if 65536 ≤ n.natAbs then .d (.int k) (veil n) else .d (.int k) n
 | .string b => .d .str b
 | .pointer none => .pnil
 | .slice none 0 0 => .nilsl
 | .nilFunc => .nilf
 | .nilIface => .nili
 | _ => .dead
def rho (s : List AV) : Operand → AV
 | .tmp t => getS s t
 | .const v => constV v
 | .func f => .fn (.func f) [] []
 | .global n => .glob n
def idx {α : Type} (l : List α) (i : Int) : Option α := if 0 ≤ i then l[i.toNat]? else none
def nm (dst j : Nat) : Nat := (dst + 2) * 64 + j
def newK (o : Objs) (n : Nat) (x : Obj) (κ : Objs → Option R) : Option R :=
 match o n with
 | none => κ (upd o n x)
 | some _ => none
def resolveK : List AV → Objs → (List AV → Objs → Option R) → Option R
 | [], o, κ => κ [] o
 | .row n :: rest, o, κ => match o n with
  | some (.row e t l _) => resolveK rest (upd o n (.row e t l true)) fun cs o => κ (.d (.sl t) l :: cs) o
  | _ => none
 | c :: rest, o, κ => resolveK rest o fun cs o => κ (c :: cs) o
def cellsOf : AV → List AV
 | .agg cs => cs
 | v => [v]
def headK (cs : List AV) (κ : AV → Option R) : Option R :=
 match cs with
 | c :: _ => κ c
 | [] => none
def fromCells (Θ : Nat → TD) (t : Nat) (cs : List AV) (κ : AV → Option R) : Option R :=
 match (Θ t).k with
 | .struct _ => if (Θ t).sz ≤ cs.length then κ (.agg (cs.take (Θ t).sz)) else none
 | .arr _ e => match (Θ e).ty with
  | none => if (Θ t).sz ≤ cs.length then κ (.agg (cs.take (Θ t).sz)) else none
  | some _ => none
 | .other => none
 | _ => headK cs κ
def putCells : List AV → Nat → List AV → List AV
 | cs, _, [] => cs
 | [], _, _ => []
 | _ :: cs, 0, v :: vs => v :: putCells cs 0 vs
 | c :: cs, n + 1, vs => c :: putCells cs n vs
def loadK (Θ : Nat → TD) (t : Nat) (x : AV) (o : Objs) (κ : AV → Option R) : Option R :=
 match x with
 | .ptr n off => match o n with
  | some (.box cs) => fromCells Θ t (cs.drop off) κ
  | some (.arr m e l) => match (Θ t).k with
   | .arr _ _ => if off = 0 ∧ (Θ t).sz = m * e.sz then κ (.d (.arr m e) l) else none
   | _ => none
  | some (.bld _ c) => if off = 1 then fromCells Θ t [c] κ else none
  | _ => none
 | .dp cs => fromCells Θ t cs κ
 | .eptr n i off => match o n with
  | some (.row _ e l _) => match idx l i with
   | some x => fromCells Θ t ((leaves e x).drop off) κ
   | none => none
  | some (.arr _ e l) => match idx l i with
   | some x => fromCells Θ t ((leaves e x).drop off) κ
   | none => none
  | _ => none
 | _ => none
def okK (k : K) : Bool :=
 match k with
 | .other => false
 | _ => true
def storeK (Θ : Nat → TD) (t : Nat) (x v : AV) (o : Objs) (κ : Objs → Option R) : Option R :=
 match x with
 | .ptr n off => match o n with
  | some (.box cs) => if okK (Θ t).k = true ∧ (cellsOf v).length = (Θ t).sz ∧ off + (cellsOf v).length ≤ cs.length ∧ (cellsOf v).all leaf1 = true then κ (upd o n (.box (putCells cs off (cellsOf v)))) else none
  | some (.arr m e l) => match v with
   | .d (.arr m' e') l' => if h : e' = e then (if okK (Θ t).k = true ∧ off = 0 ∧ (Θ t).sz = m * e.sz ∧ m' = m then κ (upd o n (.arr m e (h ▸ l'))) else none) else none
   | _ => none
  | some (.bld T _) => match v with
   | .row k => if okK (Θ t).k = true ∧ (Θ t).sz = 1 ∧ off = 1 then κ (upd o n (.bld T (.row k))) else none
   | _ => none
  | _ => none
 | .eptr n i off => if (cellsOf v).all leaf1 = true then resolveK (cellsOf v) o fun vs o => match o n with
  | some (.row el e l false) => match idx l i with
   | some x => if okK (Θ t).k = true ∧ vs.length = (Θ t).sz ∧ off + vs.length ≤ e.sz then
     packK e (putCells (leaves e x) off vs) fun y _ => κ (upd o n (.row el e (l.set i.toNat y) false))
    else none
   | none => none
  | some (.arr m e l) => match idx l i with
   | some x => if okK (Θ t).k = true ∧ vs.length = (Θ t).sz ∧ off + vs.length ≤ e.sz then
     packK e (putCells (leaves e x) off vs) fun y _ => κ (upd o n (.arr m e (l.set i.toNat y)))
    else none
   | none => none
  | _ => none
  else none
 | _ => none
def bits (op : BinOp) (k : IntKind) (x y : Int) : Int :=
 let a := BitVec.ofInt k.bits x
 let b := BitVec.ofInt k.bits y
 match op with
 | .and => k.wrap (a &&& b).toNat
 | .or => k.wrap (a ||| b).toNat
 | .xor => k.wrap (a ^^^ b).toNat
 | _ => k.wrap (a &&& ~~~b).toNat
def intK (op : BinOp) (k : IntKind) (x y : Int) (κ : AV → Option R) : Option R :=
 match op with
 | .add => κ (.d (.int k) (k.wrap (x + y)))
 | .sub => κ (.d (.int k) (k.wrap (x - y)))
 | .mul => κ (.d (.int k) (k.wrap (x * y)))
 | .quo => if y = 0 then none else κ (.d (.int k) (k.wrap (x.tdiv y)))
 | .rem => if y = 0 then none else κ (.d (.int k) (x.tmod y))
 | .and => κ (.d (.int k) (bits .and k x y))
 | .or => κ (.d (.int k) (bits .or k x y))
 | .xor => κ (.d (.int k) (bits .xor k x y))
 | .andNot => κ (.d (.int k) (bits .andNot k x y))
 | .eql => κ (.d .bool (x == y))
 | .neq => κ (.d .bool (x != y))
 | .lss => κ (.d .bool (decide (x < y)))
 | .leq => κ (.d .bool (decide (x ≤ y)))
 | .gtr => κ (.d .bool (decide (x > y)))
 | .geq => κ (.d .bool (decide (x ≥ y)))
 | _ => none
def shiftK (left : Bool) (k : IntKind) (a b : Int) (κ : AV → Option R) : Option R :=
 if b < 0 then none else if left then κ (.d (.int k) (k.wrap (a * 2 ^ (min b.toNat k.bits)))) else κ (.d (.int k) (a.fdiv (2 ^ (min b.toNat k.bits))))
def nilEq (op : BinOp) (c : Bool) (κ : AV → Option R) : Option R :=
 match op with
 | .eql => κ (.d .bool c)
 | .neq => κ (.d .bool (!c))
 | _ => none
def eqK (Θ : Nat → TD) : Nat → List (Nat × Nat) → List AV → List AV → (Bool → Option R) → Option R
 | _, [], [], [], κ => κ true
 | k, (off, t) :: fs, a :: as, b :: bs, κ => if off = k then
   match (Θ t).k with
   | .bool => match a, b with
    | .d .bool x, .d .bool y => eqK Θ (k + 1) fs as bs fun c' => κ (if x == y then c' else false)
    | _, _ => none
   | .int _ => match a, b with
    | .d (.int k1) x, .d (.int k2) y => if k1 = k2 then eqK Θ (k + 1) fs as bs fun c' => κ (if x == y then c' else false) else none
    | _, _ => none
   | .str => match a, b with
    | .d .str x, .d .str y => eqK Θ (k + 1) fs as bs fun c' => κ (if x.toList == y.toList then c' else false)
    | _, _ => none
   | _ => none
  else none
 | _, _, _, _, _ => none
def isPtrK (k : K) : Bool :=
 match k with
 | .ptr _ => true
 | _ => false
def binK (Θ : Nat → TD) (op : BinOp) (t : Nat) (x y : AV) (κ : AV → Option R) : Option R :=
 match x, y with
 | .d (.int k) a, .d (.int k') b => match op with
  | .shl => shiftK true k a b κ
  | .shr => shiftK false k a b κ
  | op => if k = k' then intK op k a b κ else none
 | .d .bool a, .d .bool b => match (Θ t).k with
  | .bool => nilEq op (a == b) κ
  | _ => none
 | .d .str a, .d .str b => match op with
  | .add => if a.size + b.size ≤ 1099511627776 then κ (.d .str (a ++ b)) else none
  | .eql => κ (.d .bool (a.toList == b.toList))
  | .neq => κ (.d .bool (!(a.toList == b.toList)))
  | .lss => κ (.d .bool (Op.bytesLess a.toList b.toList))
  | _ => none
 | .ptr _ _, .pnil => if isPtrK (Θ t).k then nilEq op false κ else none
 | .eptr _ _ _, .pnil => if isPtrK (Θ t).k then nilEq op false κ else none
 | .dp _, .pnil => if isPtrK (Θ t).k then nilEq op false κ else none
 | .pnil, .pnil => if isPtrK (Θ t).k then nilEq op true κ else none
 | .agg cs, .agg ds => match (Θ t).k with
  | .struct fs => if (Θ t).eq = true then eqK Θ 0 fs cs ds fun c => nilEq op c κ else none
  | _ => none
 | _, _ => none
def bytesOf (s : ByteArray) : List Int := s.data.toList.map fun b => (b.toNat : Int)
@[reducible] def strOf (l : List Int) : ByteArray := strOfNums l
def lim : Nat := 1099511627776
def szOk (Θ : Nat → TD) (e n : Nat) : Bool := okK (Θ e).k && (Θ e).sz == n
def elemTy (Θ : Nat → TD) (t : Nat) : Option (Nat × Ty) :=
 match (Θ t).k with
 | .sl e => match (Θ e).ty with
  | some te => if (Θ e).sz = te.sz ∧ 0 < (Θ e).nb then some (e, te) else none
  | none => none
 | _ => none
def elemsK (t : Ty) (y : AV) (o : Objs) (κ : List t.I → Option R) : Option R :=
 match y with
 | .d (.sl t') l => if h : t' = t then κ (h ▸ l) else none
 | .row n => match o n with
  | some (.row _ t' l _) => if h : t' = t then κ (h ▸ l) else none
  | _ => none
 | .win n a b => match o n with
  | some (.row _ t' l _) => if h : t' = t then (if a ≤ b ∧ b ≤ l.length then κ (((h ▸ l : List t.I).take b).drop a) else none) else none
  | _ => none
 | .nilsl => κ []
 | .d .str s => if h : Ty.int .u8 = t then κ (h ▸ bytesOf s) else none
 | _ => none
def appendK (Θ : Nat → TD) (e : Nat) (t : Ty) (dst : Nat) (x y : AV) (o : Objs) (κ : AV → Objs → Option R) : Option R :=
 elemsK t y o fun ys =>
 match x with
 | .nilsl => if (ys.length) * (Θ e).nb ≤ lim then newK o (nm dst 0) (.row e t ys false) fun o => κ (.row (nm dst 0)) o else none
 | .row n => match o n with
  | some (.row e' t' l frz) => if h : t' = t then
    if e' = e then
     if (l.length + ys.length) * (Θ e).nb ≤ lim then newK (upd o n .gone) (nm dst 0) (.row e t ((h ▸ l) ++ ys) frz) fun o => κ (.row (nm dst 0)) o else none
    else none
   else none
  | _ => none
 | .win n a b => match o n with
  | some (.row e' t' l frz) => if h : t' = t then
    if e' = e ∧ frz = false ∧ a = 0 then
     if b + ys.length ≤ l.length then κ (.win n 0 (b + ys.length)) (upd o n (.row e' t ((h ▸ l : List t.I).take b ++ ys ++ (h ▸ l : List t.I).drop (b + ys.length)) false)) else none
    else none
   else none
  | _ => none
 | _ => none
def copK (t : Ty) (x : AV) (o : Objs) (ys : List t.I) (κ : AV → Objs → Option R) : Option R :=
 match x with
 | .row n => match o n with
  | some (.row e t' l frz) => if h : t' = t then
    if frz = false ∧ ys.length ≤ l.length then κ (.d (.int .i64) (ys.length : Int)) (upd o n (.row e t (ys ++ (h ▸ l : List t.I).drop ys.length) false)) else none
   else none
  | _ => none
 | .win n a b => match o n with
  | some (.row e t' l frz) => if h : t' = t then
    if frz = false then
     if a + ys.length ≤ b ∧ b ≤ l.length then κ (.d (.int .i64) (ys.length : Int)) (upd o n (.row e t ((h ▸ l : List t.I).take a ++ ys ++ (h ▸ l : List t.I).drop (a + ys.length)) false)) else none
    else none
   else none
  | _ => none
 | .nilsl => if ys.length = 0 then κ (.d (.int .i64) (ys.length : Int)) o else none
 | _ => none
def clearK (t : Ty) (x : AV) (o : Objs) (κ : AV → Objs → Option R) : Option R :=
 match x with
 | .win n a b => match o n with
  | some (.row e t' l frz) => if h : t' = t then
    if frz = false then
     if a ≤ b ∧ b ≤ l.length then κ (.tup []) (upd o n (.row e t ((h ▸ l : List t.I).take a ++ List.replicate (b - a) (zeroI t) ++ (h ▸ l : List t.I).drop b) false)) else none
    else none
   else none
  | _ => none
 | _ => none
def copyK (t : Ty) (x y : AV) (o : Objs) (κ : AV → Objs → Option R) : Option R := elemsK t y o fun ys => copK t x o ys κ
def lenK (x : AV) (o : Objs) (κ : AV → Option R) : Option R :=
 match x with
 | .d (.sl _) l => κ (.d (.int .i64) (l.length : Int))
 | .d .str s => κ (.d (.int .i64) (s.size : Int))
 | .nilsl => κ (.d (.int .i64) 0)
 | .row n => match o n with
  | some (.row _ _ l _) => κ (.d (.int .i64) (l.length : Int))
  | _ => none
 | .win _ a b => κ (.d (.int .i64) ((b - a : Nat) : Int))
 | _ => none
def cutI (lo hi : Option Int) (n : Nat) (k : Nat → Nat → Option R) : Option R :=
 match lo, hi with
 | none, none => k 0 n
 | some a, none => if 0 ≤ a ∧ a ≤ (n : Int) then k a.toNat n else none
 | none, some b => if 0 ≤ b ∧ b ≤ (n : Int) then k 0 b.toNat else none
 | some a, some b => if 0 ≤ a ∧ a ≤ b ∧ b ≤ (n : Int) then k a.toNat b.toNat else none
def optI : Option AV → Option (Option Int)
 | none => some none
 | some (.d (.int _) a) => some (some a)
 | _ => none
def cutK (lo hi : Option AV) (n : Nat) (k : Nat → Nat → Option R) : Option R :=
 match optI lo, optI hi with
 | some lo, some hi => cutI lo hi n k
 | _, _ => none
def sliceK (Θ : Nat → TD) (tx : Nat) (x : AV) (lo hi : Option AV) (o : Objs) (κ : AV → Objs → Option R) : Option R :=
 match (Θ tx).k with
 | .str => match x with
  | .d .str s => cutK lo hi s.size fun a b => κ (.d .str (s.extract a b)) o
  | _ => none
 | .sl e => match x with
  | .d (.sl t) l => if szOk Θ e t.sz = true then cutK lo hi l.length fun a b => κ (.d (.sl t) ((l.take b).drop a)) o else none
  | .row n => match o n with
   | some (.row el t l _) => if szOk Θ e t.sz = true then cutK lo hi l.length fun a b => κ (.d (.sl t) ((l.take b).drop a)) (upd o n (.row el t l true)) else none
   | _ => none
  | _ => none
 | .arr m e => match x with
  | .ptr n off => match o n with
   | some (.arr m' t l) => if off = 0 ∧ m' = m ∧ szOk Θ e t.sz = true then cutK lo hi l.length fun a b => κ (.d (.sl t) ((l.take b).drop a)) (upd o n .gone) else none
   | _ => none
  | _ => none
 | _ => none
def cutW (lo hi : Option Int) (n c : Nat) (k : Nat → Nat → Option R) : Option R :=
 match lo, hi with
 | none, none => k 0 n
 | some a, none => if 0 ≤ a ∧ a ≤ (n : Int) then k a.toNat n else none
 | none, some b => if 0 ≤ b ∧ b ≤ (c : Int) then k 0 b.toNat else none
 | some a, some b => if 0 ≤ a ∧ a ≤ b ∧ b ≤ (c : Int) then k a.toNat b.toNat else none
def cutX (lo hi : Option AV) (n c : Nat) (k : Nat → Nat → Option R) : Option R :=
 match optI lo, optI hi with
 | some lo, some hi => cutW lo hi n c k
 | _, _ => none
def winK (Θ : Nat → TD) (tx : Nat) (x : AV) (lo hi : Option AV) (o : Objs) (κ : AV → Option R) : Option R :=
 match (Θ tx).k with
 | .str => match x with
  | .d .str s => cutK lo hi s.size fun a b => κ (.d .str (s.extract a b))
  | _ => none
 | .sl e => match x with
  | .d (.sl t) l => if szOk Θ e t.sz = true then cutK lo hi l.length fun a b => κ (.d (.sl t) ((l.take b).drop a)) else none
  | .row n => match o n with
   | some (.row _ t l _) => if szOk Θ e t.sz = true then cutX lo hi l.length l.length fun a b => κ (.win n a b) else none
   | _ => none
  | .win n a0 b0 => match o n with
   | some (.row _ t l _) => if szOk Θ e t.sz = true then (if a0 ≤ b0 ∧ b0 ≤ l.length then cutX lo hi (b0 - a0) (l.length - a0) fun a b => κ (.win n (a0 + a) (a0 + b)) else none) else none
   | _ => none
  | _ => none
 | _ => none
def win3K (Θ : Nat → TD) (tx : Nat) (x : AV) (lo hi : Option AV) (mx : AV) (o : Objs) (κ : AV → Option R) : Option R :=
 match (Θ tx).k with
 | .sl e => match x with
  | .row n => match o n with
   | some (.row _ t l _) => if szOk Θ e t.sz = true then
     match optI lo, optI hi, optI (some mx) with
     | some lo, some (some b), some (some m) => if 0 ≤ b ∧ b ≤ m ∧ m ≤ (l.length : Int) then
       match lo with
       | none => κ .dead
       | some a => if 0 ≤ a ∧ a ≤ b then κ .dead else none
      else none
     | _, _, _ => none
    else none
   | _ => none
  | _ => none
 | _ => none
def indexAddrK (Θ : Nat → TD) (tx : Nat) (x : AV) (i : Int) (o : Objs) (κ : AV → Option R) : Option R :=
 match (Θ tx).k with
 | .sl e => match x with
  | .d (.sl t) l => if szOk Θ e t.sz = true then
    match idx l i with
    | some y => κ (.dp (leaves t y))
    | none => none
   else none
  | .row n => match o n with
   | some (.row _ t l _) => if szOk Θ e t.sz = true then
     match idx l i with
     | some _ => κ (.eptr n i 0)
     | none => none
    else none
   | _ => none
  | _ => none
 | .arr m e => match x with
  | .ptr n 0 => match o n with
   | some (.arr m' t l) => if szOk Θ e t.sz = true ∧ m' = m then
     match idx l i with
     | some _ => κ (.eptr n i 0)
     | none => none
    else none
   | _ => none
  | .glob n => match gtab n with
   | some (k, l) => if szOk Θ e 1 = true ∧ l.length = m then
     match idx l i with
     | some y => κ (.dp [.d (.int k) y])
     | none => none
    else none
   | none => none
  | _ => none
 | _ => none
def single : List AV → AV
 | [c] => c
 | cs => .agg cs
def selK (i : Int) : List Int → Nat → (Nat → Option R) → Option R
 | [], _, _ => none
 | z :: zs, j, k => if (i == z) = true then k j else selK i zs (j + 1) k
def ints32 : List Int := [0, 1, 2, 3, 4, 5, 6, 7, 8, 9, 10, 11, 12, 13, 14, 15, 16, 17, 18, 19, 20, 21, 22, 23, 24, 25, 26, 27, 28, 29, 30, 31]
def indexK (Θ : Nat → TD) (tx : Nat) (x : AV) (i : Int) (κ : AV → Option R) : Option R :=
 match (Θ tx).k with
 | .str => match x with
  | .d .str s => match idx s.data.toList i with
   | some b => κ (.d (.int .u8) (b.toNat : Int))
   | none => none
  | _ => none
 | .arr m e => match x with
  | .d (.arr m' t) l => if m' = m ∧ szOk Θ e t.sz = true then
    match idx l i with
    | some y => fromCells Θ e (leaves t y) κ
    | none => none
   else none
  | .agg cs => if okK (Θ e).k = true ∧ 0 < (Θ e).sz ∧ cs.length = m * (Θ e).sz ∧ m ≤ 32 then selK i (ints32.take m) 0 fun j => fromCells Θ e ((cs.drop (j * (Θ e).sz)).take (Θ e).sz) κ else none
  | _ => none
 | _ => none
def convK (Θ : Nat → TD) (src dst : Nat) (tdst : Nat) (x : AV) (o : Objs) (κ : AV → Objs → Option R) : Option R :=
 match (Θ src).k, (Θ dst).k, x with
 | .int _, .int k, .d (.int _) n => κ (.d (.int k) (k.wrap n)) o
 | .str, .str, .d .str s => κ (.d .str s) o
 | .str, .sl e, .d .str s => match (Θ e).k with
  | .int .u8 => if s.size ≤ lim then newK o (nm tdst 0) (.row e (.int .u8) (bytesOf s) false) fun o => κ (.row (nm tdst 0)) o else none
  | _ => none
 | .sl e, .str, x => match (Θ e).k with
  | .int .u8 => match x with
   | .d .str _ => none
   | .win _ _ _ => none
   | x => elemsK (.int .u8) x o fun l => κ (.d .str (strOf l)) o
  | _ => none
 | _, _, _ => none
def fillK (Θ : Nat → TD) (fs : List (Nat × Nat)) : List (Nat × AV) → List AV → (List AV → Option R) → Option R
 | [], cs, κ => κ cs
 | (i, v) :: rest, cs, κ => match fs[i]? with
  | some (off, ft) => if okK (Θ ft).k = true ∧ (cellsOf v).length = (Θ ft).sz ∧ off + (cellsOf v).length ≤ cs.length ∧ (cellsOf v).all leaf1 = true then
    fillK Θ fs rest (putCells cs off (cellsOf v)) κ else none
  | none => none
def partsK (t : Ty) : List (Nat × AV) → Objs → (List t.I → Objs → Option R) → Option R
 | [], o, κ => κ [] o
 | (_, v) :: rest, o, κ => if (cellsOf v).length = t.sz ∧ (cellsOf v).all leaf1 = true then
   resolveK (cellsOf v) o fun cs o => packK t cs fun x _ => partsK t rest o fun xs o => κ (x :: xs) o
  else none
def inOrder : Nat → List (Nat × AV) → Bool
 | _, [] => true
 | k, (i, _) :: rest => i == k && inOrder (k + 1) rest
def buildK (Θ : Nat → TD) (t : Nat) (parts : List (Nat × AV)) (o : Objs) (κ : AV → Objs → Option R) : Option R :=
 match (Θ t).k with
 | .struct fs => fillK Θ fs parts (Θ t).zero fun cs => κ (.agg cs) o
 | .arr n e => match (Θ e).ty with
  | some te => if inOrder 0 parts = true ∧ parts.length = n ∧ szOk Θ e te.sz = true ∧ (Θ t).sz = n * te.sz then partsK te parts o fun l o => κ (.d (.arr n te) l) o else none
  | none => if inOrder 0 parts = true ∧ parts.length = n ∧ (Θ t).sz = n * (Θ e).sz ∧ 0 < (Θ e).sz ∧ okK (Θ e).k = true ∧ (parts.all fun p => (cellsOf p.2).length == (Θ e).sz && (cellsOf p.2).all leaf1) = true then κ (.agg (parts.flatMap fun p => cellsOf p.2)) o else none
 | _ => none
def nilCheckK (x : AV) (κ : AV → Option R) : Option R :=
 match x with
 | .ptr n off => κ (.ptr n off)
 | .eptr n i off => κ (.eptr n i off)
 | .dp cs => κ (.dp cs)
 | .fn (.func f) a b => κ (.fn (.func f) a b)
 | _ => none
def fieldOff (Θ : Nat → TD) (s f : Nat) : Option (Nat × Nat) :=
 match (Θ s).k with
 | .struct fs => match fs[f]? with
  | some (off, ft) => if (Θ ft).sz = 0 then none else some (off, ft)
  | none => none
 | _ => none
def fieldAddrK (off : Nat) (x : AV) (κ : AV → Option R) : Option R :=
 match x with
 | .ptr n a => κ (.ptr n (a + off))
 | .eptr n i a => κ (.eptr n i (a + off))
 | .dp cs => κ (.dp (cs.drop off))
 | _ => none
inductive PB where
 | own (root : Option Nat) (path : List Nat) (c e : Nat) (ty : Ty) (mv : Bool)
 | frz (root : Option Nat) (path : List Nat) (c : Nat) (ty : Ty)
 | kill (n : Nat)
inductive Mode where
 | dat (t : Ty) (ag : Bool) | own (e : Nat) (t : Ty) | raw | fz | pb (l : List PB) | mv (e : Nat) (t : Ty)
def ofD (ag : Bool) (t : Ty) (x : t.I) : AV := if ag then .agg (leaves t x) else single (leaves t x)
structure Sum where
 modes : List Mode
 run : {R : Type} → List AV → List Obj → (List AV → List Obj → Option R) → Option R
mutual
def namesV : AV → List Nat
 | .ptr n _ => [n]
 | .eptr n _ _ => [n]
 | .row n => [n]
 | .win n _ _ => [n]
 | .fn _ a b => namesL a ++ namesL b
 | .agg cs => namesL cs
 | .tup cs => namesL cs
 | .dp cs => namesL cs
 | _ => []
def namesL : List AV → List Nat
 | [] => []
 | v :: vs => namesV v ++ namesL vs
end
def namesO : Obj → List Nat
 | .box cs => namesL cs
 | .bld _ c => namesV c
 | _ => []
def gather (o : Objs) : Nat → List Nat → List Nat → List Nat
 | 0, _, acc => acc
 | _ + 1, [], acc => acc
 | k + 1, n :: todo, acc =>
  if acc.contains n then gather o k todo acc else
  match o n with
  | some x => gather o k (namesO x ++ todo) (acc ++ [n])
  | none => gather o k todo acc
def place (ns : List Nat) (n : Nat) : Option Nat :=
 let i := ns.findIdx (· == n)
 if i < ns.length then some i else none
mutual
def renV (f : Nat → Option Nat) : AV → AV
 | .ptr n off => match f n with | some m => .ptr m off | none => .dead
 | .eptr n i off => match f n with | some m => .eptr m i off | none => .dead
 | .row n => match f n with | some m => .row m | none => .dead
 | .win n a b => match f n with | some m => .win m a b | none => .dead
 | .fn g a b => .fn g (renL f a) (renL f b)
 | .agg cs => .agg (renL f cs)
 | .tup cs => .tup (renL f cs)
 | .dp cs => .dp (renL f cs)
 | .d t x => .d t x
 | .pnil => .pnil
 | .nilsl => .nilsl
 | .nilf => .nilf
 | .nili => .nili
 | .glob n => .glob n
 | .dead => .dead
def renL (f : Nat → Option Nat) : List AV → List AV
 | [] => []
 | v :: vs => renV f v :: renL f vs
end
def renO (f : Nat → Option Nat) : Obj → Obj
 | .box cs => .box (renL f cs)
 | .bld T c => .bld T (renV f c)
 | x => x
def isAggV : AV → Bool
 | .agg _ => true
 | _ => false
def mvF (n m k : Nat) : Option Nat := if k = n then some m else if k = m then none else some k
def mvO (n m : Nat) (o : Objs) : Objs := upd (fun j => if j = n then none else if j = m then (o n).map (renO (mvF n m)) else (o j).map (renO (mvF n m))) n .gone
def follow (o : Objs) : List Nat → AV → Option Nat
 | [], v => match v with
  | .ptr n _ => some n
  | _ => none
 | i :: p, v => match v with
  | .agg cs => match cs[i]? with
   | some x => follow o p x
   | none => none
  | .ptr n _ => match o n with
   | some (.box cs) => match cs[i]? with
    | some x => follow o p x
    | none => none
   | _ => none
  | _ => none
def rootV (root : Option Nat) (v : AV) : AV :=
 match root with
 | some n => .ptr n 0
 | none => v
def pb1 (p : PB) (v : AV) (m : Nat) (o : Objs) (κ : Objs → Option R) : Option R :=
 match p with
 | .own root path c e ty mv => match follow o path (rootV root v) with
  | some n => match o n with
   | some (.box cs) => match cs[c]? with
    | some .nilsl => if ty.flat = true then newK o m (.row e ty [] false) fun o => κ (upd o n (.box (cs.set c (.row m)))) else none
    | some (.row k) => if mv = true then (match o k, o m with
     | some (.row _ _ _ _), none => κ (mvO k m o)
     | _, _ => none) else κ o
    | _ => κ o
   | _ => none
  | none => none
 | .frz root path c ty => match follow o path (rootV root v) with
  | some n => match o n with
   | some (.box cs) => match cs[c]? with
    | some .nilsl => if ty.flat = true then κ (upd o n (.box (cs.set c (.d (.sl ty) [])))) else none
    | some (.row k) => match o k with
     | some (.row e t l _) => κ (upd (upd o k (.row e t l true)) n (.box (cs.set c (.d (.sl t) l))))
     | _ => none
    | _ => κ o
   | _ => none
  | none => none
 | .kill k => match o k with
  | some _ => κ (upd o k .gone)
  | none => κ o
def pbK : List PB → AV → Nat → Objs → (Objs → Option R) → Option R
 | [], _, _, o, κ => κ o
 | p :: rest, v, m, o, κ => pb1 p v m o fun o => pbK rest v (m + 8) o κ
def prepK : List Mode → List AV → Nat → Objs → (List AV → Objs → Option R) → Option R
 | [], [], _, o, κ => κ [] o
 | m :: ms, v :: vs, j, o, κ => match m with
  | .own e t => match v with
   | .nilsl => if t.flat = true then newK o j (.row e t [] false) fun o => prepK ms vs (j + 1) o fun vs o => κ (.row j :: vs) o else none
   | v => prepK ms vs (j + 1) o fun vs o => κ (v :: vs) o
  | .raw => prepK ms vs (j + 1) o fun vs o => κ (v :: vs) o
  | .mv e t => match v with
   | .nilsl => if t.flat = true then newK o j (.row e t [] false) fun o => prepK ms vs (j + 1) o fun vs o => κ (.row j :: vs) o else none
   | .row n => match o n with
    | some (.row e' t' l frz) => newK (upd o n .gone) j (.row e' t' l frz) fun o => prepK ms vs (j + 1) o fun vs o => κ (.row j :: vs) o
    | _ => none
   | .win n a b => match o n with
    | some (.row e' t' l false) => if a = 0 ∧ b ≤ l.length then newK (upd o n .gone) j (.row e' t' (l.take b) false) fun o => prepK ms vs (j + 1) o fun vs o => κ (.row j :: vs) o else none
    | _ => none
   | _ => none
  | .pb l => pbK l v (j + 8) o fun o => prepK ms vs (j + 1) o fun vs o => κ (v :: vs) o
  | .fz => match v with
   | .ptr n off => match o n with
    | some (.box cs) => resolveK cs o fun cs o => match o n with
     | some (.box _) => prepK ms vs (j + 1) (upd o n (.box cs)) fun vs o => κ (.ptr n off :: vs) o
     | _ => none
    | _ => none
   | _ => none
  | .dat t ag => if (cellsOf v).length = t.sz ∧ (cellsOf v).all leaf1 = true ∧ t.flat = true ∧ isAggV v = ag ∧ (ag = false → t.sz = 1) then
    resolveK (cellsOf v) o fun cs o => packK t cs fun x _ => prepK ms vs (j + 1) o fun vs o => κ (ofD ag t x :: vs) o
   else none
 | m :: _, [], j, o, κ => match m with
  | .pb l => pbK l .dead (j + 8) o fun o => κ [] o
  | _ => none
 | [], _ :: _, _, _, _ => none
def backO (ns : List Nat) (dst k : Nat) (n : Nat) : Option Nat := if n < ns.length then ns[n]? else if n < k then some (nm dst (n - ns.length)) else none
def setAll (f : Nat → Option Nat) : Nat → List Obj → Objs → Objs
 | _, [], o => o
 | j, x :: xs, o => match f j with
  | some n => setAll f (j + 1) xs (upd o n (renO f x))
  | none => setAll f (j + 1) xs o
def tupOf : List AV → AV
 | [v] => v
 | vs => .tup vs
def freeK (o : Objs) (dst : Nat) : Nat → Bool
 | 0 => true
 | k + 1 => (o (nm dst k)).isNone && freeK o dst k
def objsAt (o : Objs) (f : Nat → Option Nat) : List Nat → (List Obj → Option R) → Option R
 | [], κ => κ []
 | n :: ns, κ => match o n with
  | some x => objsAt o f ns fun xs => κ (renO f x :: xs)
  | none => none
def placeOk (ns : List Nat) : Nat → List Nat → Bool
 | _, [] => true
 | j, n :: l => (place ns n == some j) && placeOk ns (j + 1) l
def atL (l : List Obj) : Objs := fun n => l[n]?
def forceNs : List Nat → (List Nat → Option R) → Option R
 | [], κ => κ []
 | n :: l, κ => forceNs l fun l => κ (n :: l)
theorem forceNs_eq : ∀ (l : List Nat) (κ : List Nat → Option R), forceNs l κ = κ l
 | [], _ => rfl
 | n :: l, κ => forceNs_eq l fun l => κ (n :: l)
def callK (S : Sum) (dst : Nat) (args : List AV) (o : Objs) (κ : AV → Objs → Option R) : Option R :=
 prepK S.modes args (nm dst 32) o fun args o =>
 forceNs (gather o 200 (namesL args) []) fun ns =>
 if placeOk ns 0 ns = true then
 objsAt o (place ns) ns fun objs =>
 S.run (renL (place ns) args) objs fun rs os =>
 if ns.length ≤ os.length ∧ freeK o dst (os.length - ns.length) = true then
  κ (renV (backO ns dst os.length) (tupOf rs)) (setAll (backO ns dst os.length) 0 os o)
 else none
 else none
def minI (x y : Int) : Int := if y < x then y else x
def maxI (x y : Int) : Int := if y > x then y else x
def builtinK (Θ : Nat → TD) (b : Builtin) (argTypes : List Nat) (dst : Nat) (args : List AV) (o : Objs) (κ : AV → Objs → Option R) : Option R :=
 match b, args with
 | .len, [x] => match argTypes with
  | [t0] => match (Θ t0).k with
   | .str => match x with
    | .d .str s => κ (.d (.int .i64) (s.size : Int)) o
    | _ => none
   | .arr n _ => κ (.d (.int .i64) (n : Int)) o
   | .sl _ => match x with
    | .d .str s => none
    | x => lenK x o fun v => κ v o
   | _ => none
  | _ => none
 | .append, [x, y] => match argTypes with
  | [t0, t1] => match elemTy Θ t0, (Θ t1).k with
   | some (e, t), .sl _ => appendK Θ e t dst x y o κ
   | some (e, t), .str => appendK Θ e t dst x y o κ
   | _, _ => none
  | _ => none
 | .copy, [x, y] => match argTypes with
  | [t0, _] => match elemTy Θ t0 with
   | some (_, t) => copyK t x y o κ
   | none => none
  | _ => none
 | .clear, [x] => match argTypes with
  | [t0] => match elemTy Θ t0 with
   | some (_, t) => clearK t x o κ
   | none => none
  | _ => none
 | .min, [.d (.int k) x, .d (.int k') y] => if k = k' then κ (.d (.int k) (minI x y)) o else none
 | .max, [.d (.int k) x, .d (.int k') y] => if k = k' then κ (.d (.int k) (maxI x y)) o else none
 | _, _ => none
structure LA where
 keep : List Nat
 prom : List (Nat × Nat × Ty)
 dat : List Nat
structure Env where
 Θ : Nat → TD
 Γ : Nat → Option Sum
 A : Nat → LA
def winOn (E : Env) : Bool := (E.A 888888).keep.contains 1
def makeK (nb : Nat) (l c : Int) (k : Nat → Option R) : Option R :=
 if 0 ≤ l ∧ l ≤ c ∧ c * nb ≤ 1099511627776 ∧ c ≤ 1099511627776 then k l.toNat else none
def arrK (Θ : Nat → TD) (t : Nat) (κ : Nat → Ty → Option R) : Option R :=
 match (Θ t).k with
 | .arr n e => match (Θ e).ty with
  | some te => if (Θ e).sz = te.sz then κ n te else none
  | none => none
 | _ => none
def bldOn (E : Env) (t : Nat) : Bool := (E.A 888887).keep.contains t
def isBZ : List AV → Bool
 | [.pnil, .nilsl] => true
 | _ => false
def bldT (Θ : Nat → TD) (t : Nat) : Option (Nat × Ty) :=
 match (Θ t).k with
 | .struct fs => match fs[1]? with
  | some (_, ft) => elemTy Θ ft
  | none => none
 | _ => none
def bldK (Θ : Nat → TD) (t dst : Nat) (o : Objs) (κ : AV → Objs → Option R) : Option R :=
 match bldT Θ t with
 | some (e, te) => if te.flat = true ∧ isBZ (Θ t).zero = true then newK o (nm dst 1) (.row e te [] false) fun o => newK o (nm dst 0) (.bld t (.row (nm dst 1))) fun o => κ (.ptr (nm dst 0) 0) o else none
 | none => none
def opK (E : Env) (op : Op) (dst : Nat) (s : List AV) (o : Objs) (κ : AV → Objs → Option R) : Option R :=
 match op with
 | .move x => κ (rho s x) o
 | .assign x => κ (rho s x) o
 | .pick c a b => match rho s c with
  | .d .bool c => if c then κ (rho s a) o else κ (rho s b) o
  | _ => none
 | .alloc t => match bldOn E t with
  | true => bldK E.Θ t dst o κ
  | false => match (E.Θ t).k with
   | .arr _ e => match (E.Θ e).ty with
    | some _ => arrK E.Θ t fun n te => newK o (nm dst 0) (.arr n te (List.replicate n (zeroI te))) fun o => κ (.ptr (nm dst 0) 0) o
    | none => newK o (nm dst 0) (.box (E.Θ t).zero) fun o => κ (.ptr (nm dst 0) 0) o
   | .other => none
   | _ => newK o (nm dst 0) (.box (E.Θ t).zero) fun o => κ (.ptr (nm dst 0) 0) o
 | .box _ v => match rho s v with
  | .d (.arr n t) l => newK o (nm dst 0) (.arr n t l) fun o => κ (.ptr (nm dst 0) 0) o
  | v => if (cellsOf v).all leaf1 = true then newK o (nm dst 0) (.box (cellsOf v)) fun o => κ (.ptr (nm dst 0) 0) o else none
 | .build t parts => buildK E.Θ t (parts.toList.map fun p => (p.1, rho s p.2)) o κ
 | .buildSlice t len parts => match elemTy E.Θ t with
  | some (e, te) =>
   if inOrder 0 (parts.toList.map fun p => (p.1, rho s p.2)) = true ∧ parts.toList.length = len ∧ 0 < len ∧ len * (E.Θ e).sz ≤ 16777216 ∧ len * (E.Θ e).nb ≤ lim then
    partsK te (parts.toList.map fun p => (p.1, rho s p.2)) o fun l o => newK o (nm dst 0) (.row e te l false) fun o => κ (.row (nm dst 0)) o else none
  | none => none
 | .load t x => loadK E.Θ t (rho s x) o fun v => κ v o
 | .store t x v => storeK E.Θ t (rho s x) (rho s v) o fun o => κ .dead o
 | .nilCheck x => nilCheckK (rho s x) fun v => κ v o
 | .binOp op t x y _ => binK E.Θ op t (rho s x) (rho s y) fun v => κ v o
 | .unOp op _ x => match op, rho s x with
  | .not, .d .bool b => κ (.d .bool (!b)) o
  | .neg, .d (.int k) n => κ (.d (.int k) (k.wrap (0 - n))) o
  | .xor, .d (.int k) n => κ (.d (.int k) (bits .xor k (if k.signed then -1 else k.max) n)) o
  | _, _ => none
 | .convert src d x => convK E.Θ src d dst (rho s x) o κ
 | .makeFunc (.func f) first caps => κ (.fn (.func f) (first.toList.map (rho s)) (caps.toList.map (rho s))) o
 | .makeSlice t l c => match elemTy E.Θ t, rho s l, rho s c with
  | some (e, te), .d (.int .i64) l, .d (.int .i64) c => makeK (E.Θ e).nb l c fun n => newK o (nm dst 0) (.row e te (List.replicate n (zeroI te)) false) fun o => κ (.row (nm dst 0)) o
  | _, _, _ => none
 | .slice t x lo hi none => match winOn E with
  | true => winK E.Θ t (rho s x) (lo.map (rho s)) (hi.map (rho s)) o fun v => κ v o
  | false => sliceK E.Θ t (rho s x) (lo.map (rho s)) (hi.map (rho s)) o κ
 | .slice t x lo hi (some m) => match winOn E with
  | true => win3K E.Θ t (rho s x) (lo.map (rho s)) (hi.map (rho s)) (rho s m) o fun v => κ v o
  | false => none
 | .fieldAddr t x f => match fieldOff E.Θ t f with
  | some (off, ft) => if okK (E.Θ ft).k = true then fieldAddrK off (rho s x) fun v => κ v o else none
  | none => none
 | .field t x f => match fieldOff E.Θ t f, rho s x with
  | some (off, ft), .agg cs => fromCells E.Θ ft (cs.drop off) fun v => κ v o
  | _, _ => none
 | .indexAddr t x i => match rho s i with
  | .d (.int _) i => indexAddrK E.Θ t (rho s x) i o fun v => κ v o
  | _ => none
 | .index t x i => match rho s i with
  | .d (.int _) i => indexK E.Θ t (rho s x) i fun v => κ v o
  | _ => none
 | .extract x i => match rho s x with
  | .tup vs => if i < vs.length then κ (vs.getD i .dead) o else none
  | _ => none
 | .call c => match c.callee with
  | .builtin b => builtinK E.Θ b c.argTypes.toList dst (c.args.toList.map (rho s)) o κ
  | .value f => match rho s f with
   | .fn (.func g) first caps => match E.Γ g with
    | some S => callK S dst (first ++ c.args.toList.map (rho s) ++ caps) o κ
    | none => none
   | _ => none
  | _ => none
 | _ => none
def putS (s : List AV) (dst : Option Nat) (v : AV) : List AV :=
 match dst with
 | some d => s.set d v
 | none => s
def denOps (E : Env) (all : List Oper) : List Oper → St → (St → Option R) → Option R
 | [], st, κ => κ st
 | op :: rest, st, κ => match op.guard with
  | none => opK E op.op (op.dst.getD 0) st.s st.o fun v o => denOps E all rest ⟨putS st.s op.dst v, o, st.m⟩ κ
  | some (j, want) => match (all[j]?).bind (·.dst) with
   | some g => match getS st.s g with
    | .d .bool c =>
     if c then
      (if want then opK E op.op (op.dst.getD 0) (st.s.set g (.d .bool true)) st.o fun v o => denOps E all rest ⟨putS (st.s.set g (.d .bool true)) op.dst v, o, st.m⟩ κ
      else denOps E all rest ⟨putS (st.s.set g (.d .bool true)) op.dst (.tup []), st.o, st.m⟩ κ)
     else
      (if want then denOps E all rest ⟨putS (st.s.set g (.d .bool false)) op.dst (.tup []), st.o, st.m⟩ κ
      else opK E op.op (op.dst.getD 0) (st.s.set g (.d .bool false)) st.o fun v o => denOps E all rest ⟨putS (st.s.set g (.d .bool false)) op.dst v, o, st.m⟩ κ)
    | .tup [] => denOps E all rest ⟨putS st.s op.dst (.tup []), st.o, st.m⟩ κ
    | _ => none
   | none => none
structure TE where
 i : Nat
 F : List Nat
 wr : Bool
 sf : Option (Nat × Nat × Nat × Nat × Nat)
def softOf (op : Op) (s : List AV) (v : AV) : Option (Nat × Nat × Nat × Nat × Nat) :=
 match op with
 | .load t x => match rho s x, v with
  | .ptr n off, .ptr a b => some (t, n, off, a, b)
  | _, _ => none
 | _ => none
def isQ (E : Env) : Op → Bool
 | .move _ | .assign _ | .pick _ _ _ | .load _ _ | .nilCheck _ | .binOp _ _ _ _ _ | .unOp _ _ _ | .makeFunc _ _ _ | .fieldAddr _ _ _ | .field _ _ _ | .indexAddr _ _ _ | .index _ _ _ | .extract _ _ => true
 | .slice _ _ _ _ _ => winOn E
 | .convert s d _ => match (E.Θ s).k, (E.Θ d).k with
  | .str, .sl _ => false
  | _, _ => true
 | .build t _ => match (E.Θ t).k with
  | .struct _ => true
  | _ => false
 | .call c => match c.callee with
  | .builtin .len => true
  | .builtin .min => true
  | .builtin .max => true
  | _ => false
 | _ => false
def readsO (op : Op) : Bool :=
 match op with
 | .load _ _ | .indexAddr _ _ _ | .convert _ _ _ | .call _ | .slice _ _ _ _ _ => true
 | _ => false
def qF (op : Op) (s : List AV) : List Nat := if readsO op = true then namesL (op.operands.toList.map (rho s)) else []
def preds (o : Oper) : List Nat := (o.after.toList.filter (Region.binds .any)).map (·.on)
def ancsGo : List Oper → List Nat → List Nat
 | [], acc => acc
 | o :: rest, acc => ancsGo rest (acc ++ [(preds o).foldl (fun m p => m ||| (1 <<< p) ||| acc.getD p 0) 0])
def ancs (ops : List Oper) : List Nat := ancsGo ops []
def anc (as : List Nat) (i j : Nat) : Bool := (as.getD j 0).testBit i
def slotsOk (all : Array Oper) (as : List Nat) : Bool :=
 (List.range all.size).all fun j => match all[j]? with
  | some oj => (preds oj).all (· < j) && (List.range all.size).all fun i => match all[i]? with
   | some oi => match oi.dst with
    | some d => (!((oj.looksAt all).contains d) || (anc as i j || (anc as j i || i == j))) && (i == j || oj.dst != some d)
    | none => true
   | none => true
  | none => true
def meets (F F' : List Nat) : Bool := F.any (F'.contains ·)
def clash (as : List Nat) (tr : List TE) (x : TE) : Bool := tr.any fun e => (x.wr || e.wr) && !anc as e.i x.i && (e.wr || e.sf.isNone) && meets x.F e.F
def isPtrAt (Θ : Nat → TD) (t n off a b : Nat) (o : Objs) : Bool :=
 match loadK Θ t (.ptr n off) o (some : AV → Option AV) with
 | some (.ptr a' b') => a' == a && b' == b
 | _ => false
def softOk (E : Env) (as : List Nat) (tr : List TE) (i : Nat) (F : List Nat) (o : Objs) : Bool := tr.all fun e => match e.sf with
 | none => true
 | some (t, n, off, a, b) => anc as e.i i || (!F.contains n || isPtrAt E.Θ t n off a b o)
def onF (F : List Nat) (n : Nat) : Option Nat := if F.contains n then some n else none
def viewF (F : List Nat) (o : Objs) : Objs := fun n => if F.contains n then (o n).map (renO (onF F)) else none
def overF (F : List Nat) (a b : Objs) : Objs := fun n => if F.contains n then a n else b n
def footW (op : Op) (dst : Nat) (s : List AV) (o : Objs) : List Nat :=
 gather o 200 (namesL (op.operands.toList.map (rho s))) [] ++ (List.range 4).map (nm dst) ++ [32, 33, 34, 35, 40, 41, 42].map (nm dst)
def opV (E : Env) (F : List Nat) (op : Op) (dst : Nat) (s : List AV) (o : Objs) (κ : AV → Objs → Option R) : Option R :=
 opK E op dst (renL (onF F) s) (viewF F o) fun v o' => κ (renV (onF F) v) (overF F (viewF F o') o)
def denD (E : Env) (all : Array Oper) (as : List Nat) : Nat → List Oper → St → List TE → (St → Option R) → Option R
 | _, [], st, _, κ => κ st
 | i, op :: rest, st, tr, κ =>
  let go : St → Option R := fun st =>
   if isQ E op.op = true then
    forceNs (qF op.op st.s) fun F =>
    if clash as tr ⟨i, F, false, none⟩ = false then opK E op.op (op.dst.getD 0) st.s st.o fun v _ => denD E all as (i + 1) rest ⟨putS st.s op.dst v, st.o, st.m⟩ (⟨i, F, false, softOf op.op st.s v⟩ :: tr) κ else none
   else
    forceNs (footW op.op (op.dst.getD 0) st.s st.o) fun F =>
    if clash as tr ⟨i, F, true, none⟩ = false then opV E F op.op (op.dst.getD 0) st.s st.o fun v o => if softOk E as tr i F o = true then denD E all as (i + 1) rest ⟨putS st.s op.dst v, o, st.m⟩ (⟨i, F, true, none⟩ :: tr) κ else none else none
  let no : St → Option R := fun st => denD E all as (i + 1) rest ⟨putS st.s op.dst (.tup []), st.o, st.m⟩ tr κ
  match op.guard with
  | none => go st
  | some (j, want) => match (all[j]?).bind (·.dst) with
   | some g => match getS st.s g with
    | .d .bool c => if c then (if want then go ⟨st.s.set g (.d .bool true), st.o, st.m⟩ else no ⟨st.s.set g (.d .bool true), st.o, st.m⟩)
      else (if want then no ⟨st.s.set g (.d .bool false), st.o, st.m⟩ else go ⟨st.s.set g (.d .bool false), st.o, st.m⟩)
    | .tup [] => no st
    | _ => none
   | none => none
def namesOs (o : Objs) : Nat → List Nat
 | 0 => []
 | m + 1 => namesOs o m ++ (match o m with | some x => namesO x | none => [])
def promote : List (Nat × Nat × Ty) → List AV → Objs → (List AV → Objs → Option R) → Option R
 | [], s, o, κ => κ s o
 | (t, e, ty) :: rest, s, o, κ => if 1000 ≤ t then
   (match getS s ((t - 1000) / 64) with
   | .ptr n _ => match o n with
    | some (.box cs) => match cs[(t - 1000) % 64]? with
     | some .nilsl => if ty.flat = true then newK o (2000000 + t) (.row e ty [] false) fun o => promote rest s (upd o n (.box (cs.set ((t - 1000) % 64) (.row (2000000 + t))))) κ else none
     | _ => promote rest s o κ
    | _ => promote rest s o κ
   | _ => promote rest s o κ)
  else match getS s t with
  | .nilsl => if ty.flat = true then newK o (2000000 + t) (.row e ty [] false) fun o => promote rest (s.set t (.row (2000000 + t))) o κ else none
  | _ => promote rest s o κ
def datK : List Nat → List AV → Objs → (List AV → Objs → Option R) → Option R
 | [], s, o, κ => κ s o
 | t :: rest, s, o, κ => if 1000 ≤ t then
   (match o (t - 1000), o (4000000 + t) with
   | some (.row _ _ _ _), none => datK rest (renL (mvF (t - 1000) (4000000 + t)) s) (mvO (t - 1000) (4000000 + t) o) κ
   | _, _ => datK rest s o κ)
  else match getS s t with
  | .row n => match o n with
   | some (.row e ty l _) => datK rest (s.set t (.d (.sl ty) l)) (upd o n (.row e ty l true)) κ
   | _ => none
  | _ => datK rest s o κ
def canon (ns : List Nat) (m n : Nat) : Option Nat := if n < m then some n else (place ns n).map (64 + ·)
def keepS (keep : List Nat) : Nat → List AV → List AV
 | _, [] => []
 | j, v :: vs => (if keep.contains j then v else .dead) :: keepS keep (j + 1) vs
def live : Obj → Bool
 | .gone => false
 | _ => true
def pickO (f : Nat → Option Nat) (o : Objs) : List Nat → List (Nat × Obj)
 | [] => []
 | n :: ns => match f n, o n with
  | some j, some x => (j, renO f x) :: pickO f o ns
  | _, _ => pickO f o ns
def thinT : Ty → Bool
 | .bool => true
 | .int _ => true
 | .str => true
 | .pair a b => thinT a && thinT b
 | _ => false
def thinD : Ty → Bool
 | .arr _ t => thinT t
 | t => thinT t
mutual
def thinV : AV → Bool
 | .d t _ => thinD t
 | .dp _ => false
 | .fn _ a b => thinL a && thinL b
 | .agg cs => thinL cs
 | .tup cs => thinL cs
 | _ => true
def thinL : List AV → Bool
 | [] => true
 | v :: vs => thinV v && thinL vs
end
def thinO : Obj → Bool
 | .box cs => thinL cs
 | .row _ t _ _ => thinT t
 | .arr _ t _ => thinT t
 | .bld _ c => thinV c
 | .gone => true
def thawO : Obj → Obj
 | .row e t l _ => .row e t l false
 | x => x
def thawOn (A : LA) : Bool := A.dat.contains 666666
def thawK (A : LA) (s : List AV) (l : List (Nat × Obj)) (m : Nat) (κ : St → Option R) : Option R :=
 match thawOn A with
 | false => κ ⟨s, ofL l, m⟩
 | true => if m = 0 ∧ thinL s = true ∧ l.all (fun p => thinO p.2) = true then κ ⟨s, ofL (l.map fun p => (p.1, thawO p.2)), m⟩ else none
def tidyK (A : LA) (st : St) (κ : St → Option R) : Option R :=
 promote A.prom st.s st.o fun s1 o1 =>
 datK A.dat s1 o1 fun s0 o =>
 let s := keepS A.keep 0 s0
 forceNs ((gather o 200 (namesOs o st.m ++ namesL s) []).filter (64 ≤ ·)) fun ns =>
 let f := canon ns st.m
 if st.m ≤ 64 ∧ placeOk ns 0 ns = true then thawK A (renL f s) (pickO f o (List.range st.m ++ ns)) st.m κ else none
def rid : Code → Nat
 | .region id _ _ => id
 | .seq a _ => rid a
 | .block _ b => rid b
 | .loop b => rid b
 | .scope b => rid b
 | _ => 0
abbrev BodyK (R : Type) := St → (Ex → St → Option R) → Option R
def againK (AG : St → Option R) (κ : Ex → St → Option R) : Ex → St → Option R := fun e st' =>
 match e with
 | .normal => AG st'
 | e => κ e st'
def loopN (A : LA) (body : BodyK R) : Nat → St → (Ex → St → Option R) → Option R
 | 0, _, _ => none
 | k + 1, st, κ => body st (againK (fun st' => tidyK A st' fun st' => loopN A body k st' κ) κ)
def isJ (A : LA) : Bool := A.dat.contains 777777
abbrev LoopK (R : Type) := LA → BodyK R → Nat → St → (Ex → St → Option R) → Option R
def denC (E : Env) (L : LoopK R) (fuel : Nat) : Code → St → (Ex → St → Option R) → Option R
 | .skip, st, κ => κ .normal st
 | .region _ ops draw, st, κ =>
  if draw then (if slotsOk ops (ancs ops.toList) = true then denD E ops (ancs ops.toList) 0 ops.toList st [] fun st => κ .normal st else none)
  else denOps E ops.toList ops.toList st fun st => κ .normal st
 | .seq a b, st, κ => denC E L fuel a st fun e st => match e with
  | .normal => match isJ (E.A (rid b)) with
   | true => tidyK (E.A (rid b)) st fun st => L (E.A (rid b)) (fun st _ => denC E L fuel b st κ) fuel st fun _ _ => none
   | false => denC E L fuel b st κ
  | e => κ e st
 | .cond c a b, st, κ => match rho st.s c with
  | .d .bool c => if c then denC E L fuel a st κ else denC E L fuel b st κ
  | _ => none
 | .block id b, st, κ => denC E L fuel b st fun e st => match e with
  | .exit id' => if id' = id then κ .normal st else κ (.exit id') st
  | e => κ e st
 | .scope b, st, κ => denC E L fuel b st κ
 | .loop b, st, κ => tidyK (E.A (rid b)) st fun st => L (E.A (rid b)) (fun st κ => denC E L fuel b st κ) fuel st κ
 | .exit id, st, κ => κ (.exit id) st
 | .ret, st, κ => κ .ret st
 | .label _, st, κ => κ .normal st
 | _, _, _ => none
def resK (Θ : Nat → TD) (st : St) : List ResultVar → (List AV → Option R) → Option R
 | [], κ => κ []
 | .tmp t :: rest, κ => resK Θ st rest fun vs => κ (getS st.s t :: vs)
 | .cell a t :: rest, κ => loadK Θ t (getS st.s a) st.o fun v => resK Θ st rest fun vs => κ (v :: vs)
def outF (m : Nat) (o : Objs) (rs : List AV) (κ : List AV → List Obj → Option R) : Option R :=
 forceNs (List.range m ++ (gather o 200 (namesOs o m ++ namesL rs) []).filter (m ≤ ·)) fun ns =>
 if placeOk ns 0 ns = true then objsAt o (place ns) ns fun objs => κ (renL (place ns) rs) objs else none
def topK (E : Env) (fn : Func) (ms : List Mode) (m : Nat) (κ : List AV → List Obj → Option R) : Ex → St → Option R := fun e st =>
 match e with
 | .exit _ => none
 | _ => resK E.Θ st fn.results.toList fun rs => prepK ms rs 3000000 st.o fun rs o => outF m o rs κ
def bodyC (fn : Func) : Code :=
 match fn.body with
 | some c => c
 | none => .refuse ""
def denF (E : Env) (L : LoopK R) (fuel : Nat) (fn : Func) (ms : List Mode) (args : List AV) (objs : List Obj) (κ : List AV → List Obj → Option R) : Option R :=
 denC E L fuel (bodyC fn) ⟨args ++ List.replicate (fn.ntmps - args.length) .dead, atL objs, objs.length⟩ (topK E fn ms objs.length κ)
def has (E : Env) : Code → Nat → Bool
 | .seq a b, i => has E a i || (isJ (E.A (rid b)) && rid b == i) || has E b i
 | .cond _ a b, i => has E a i || has E b i
 | .block _ b, i => has E b i
 | .scope b, i => has E b i
 | .loop b, i => rid b == i || has E b i
 | _, _ => false
def lpI (E : Env) (fuel : Nat) : Code → Nat → List Nat → (Ex → St → Option R) → Nat → St → Option R
 | .seq a b, i, ks, κ => if has E a i then lpI E fuel a i ks (fun e st => match e with
   | .normal => match isJ (E.A (rid b)) with
    | true => tidyK (E.A (rid b)) st fun st => loopN (E.A (rid b)) (fun st _ => denC E loopN fuel b st κ) fuel st fun _ _ => none
    | false => denC E loopN fuel b st κ
   | e => κ e st) else if isJ (E.A (rid b)) && rid b == i then (fun k st => loopN (E.A i) (fun st _ => denC E loopN fuel b st κ) k st fun _ _ => none) else lpI E fuel b i ks κ
 | .cond _ a b, i, ks, κ => if has E a i then lpI E fuel a i ks κ else lpI E fuel b i ks κ
 | .block id b, i, ks, κ => lpI E fuel b i ks (fun e st => match e with
   | .exit id' => if id' = id then κ .normal st else κ (.exit id') st
   | e => κ e st)
 | .scope b, i, ks, κ => lpI E fuel b i ks κ
 | .loop b, i, ks, κ => if rid b == i then (fun k st => loopN (E.A i) (fun st κ => denC E loopN fuel b st κ) k st κ) else
   lpI E fuel b i ks.tail (againK (fun st' => tidyK (E.A (rid b)) st' fun st' => loopN (E.A (rid b)) (fun st κ => denC E loopN fuel b st κ) (ks.headD 0) st' κ) κ)
 | _, _, _, _ => fun _ _ => none
def lp (E : Env) (fuel : Nat) (fn : Func) (ms : List Mode) (m : Nat) (κ : List AV → List Obj → Option R) (i : Nat) (ks : List Nat) (k : Nat) (st : St) : Option R :=
 lpI E fuel (bodyC fn) i ks (topK E fn ms m κ) k st
end
def zeroAV : Value → AV
 | .slice none 0 0 => .nilsl
 | v => constV v
mutual
def tyOf (P : Program) : Nat → TypeId → Option Ty
 | 0, _ => none
 | k + 1, t => match P.underlying t with
  | some .bool => some .bool
  | some (.int k) => some (.int k)
  | some .string => some .str
  | some (.slice e) => (tyOf P k e).map .sl
  | some (.struct fs) => tyFs P k (fs.toList.map (·.type))
  | _ => none
def tyFs (P : Program) : Nat → List TypeId → Option Ty
 | 0, _ => none
 | _ + 1, [] => none
 | k + 1, [t] => tyOf P k t
 | k + 1, t :: ts => match tyOf P k t, tyFs P k ts with
  | some a, some b => some (.pair a b)
  | _, _ => none
end
def kOf : TypeDesc → K
 | .bool => .bool
 | .int k => .int k
 | .string => .str
 | .pointer e => .ptr e
 | .slice e => .sl e
 | .array n e => .arr n e
 | .struct fs => .struct (fs.toList.map fun f => (f.offset, f.type))
 | .func .. => .func
 | _ => .other
def zeroL (z : Option Value) : List AV :=
 match z with
 | some v => v.cells.toList.map zeroAV
 | none => []
def eqD (P : Program) (t : TypeId) (d : TypeDesc) : Bool :=
 match d with
 | .struct fs => !P.eqGuardType P.depth t && !P.stoodInHeld t && fs.toList.all (fun f => f.name != "_")
 | _ => false
def tdOf (P : Program) (t : TypeId) : TD :=
 match P.info? t, P.underlying t with
 | some i, some d => { k := kOf d, sz := i.size, nb := i.bytes, ty := tyOf P 40 t, zero := zeroL i.zero, eq := eqD P t d }
 | _, _ => { k := .other, sz := 0, nb := 0, ty := none, zero := [], eq := false }
end
end Go.Den
set_option linter.unusedVariables false
set_option linter.unusedSimpArgs false
namespace Go.Den
universe u
def Det {A : Type} (f : (R : Type) → (A → Option R) → Option R) : Prop := ∀ (R : Type) (κ : A → Option R), f R κ = (f A some).bind κ
theorem Det.pure {A : Type} (x : A) : Det fun R κ => κ x := fun _ _ => rfl
theorem Det.none {A : Type} : Det (A := A) fun R κ => none := fun _ _ => rfl
theorem Det.bind {A C : Type} {f : (R : Type) → (A → Option R) → Option R} {h : A → (R : Type) → (C → Option R) → Option R} (hf : Det f) (hh : ∀ x, Det (h x)) : Det fun R κ => f R (fun x => h x R κ) := by
 intro R κ
 show f R _ = (f C _).bind κ
 rw [hf R, hf C]
 cases hx : f A some with
 | none => rfl
 | some x => exact hh x R κ
theorem Det.ite {A : Type} {c : Prop} [Decidable c] {f h : (R : Type) → (A → Option R) → Option R} (hf : Det f) (hh : Det h) : Det fun R κ => if c then f R κ else h R κ := by
 intro R κ
 by_cases hc : c
 ·simp only [hc, if_true]; exact hf R κ
 ·simp only [hc, if_false]; exact hh R κ
theorem Det.map {A C : Type} {f : (R : Type) → (A → Option R) → Option R} (hf : Det f) (F : A → C) : Det fun R κ => f R (fun x => κ (F x)) :=
 Det.bind hf fun x => Det.pure (F x)
theorem Det.cases {A : Type} {f : (R : Type) → (A → Option R) → Option R} (hf : Det f) {R : Type} {κ : A → Option R} {r : R} (h : f R κ = some r) : ∃ x, κ x = some r ∧ ∀ (R' : Type) (κ' : A → Option R'), f R' κ' = κ' x := by
 rw [hf R κ] at h
 cases hx : f A some with
 | none => rw [hx] at h; cases h
 | some x =>
  rw [hx] at h
  refine ⟨x, h, fun R' κ' => ?_⟩
  rw [hf R' κ', hx]; rfl
def two {A C R : Type} (κ : A × C → Option R) : A → C → Option R := fun a c => κ (a, c)
theorem leafK_det (t : Ty) (cs : List AV) : Det fun R (κ : t.I × List AV → Option R) => leafK t cs (two κ) := by
 intro R κ
 show leafK t cs (two κ) = (leafK t cs (two some)).bind κ
 unfold leafK
 split
 ·split <;> rfl
 ·rfl
theorem slK_det (t : Ty) (cs : List AV) : Det fun R (κ : List t.I × List AV → Option R) => slK t cs (two κ) := by
 intro R κ
 show slK t cs (two κ) = (slK t cs (two some)).bind κ
 unfold slK
 split
 ·rfl
 ·exact leafK_det (.sl t) _ R κ
theorem packK_det : ∀ (t : Ty) (cs : List AV), Det fun R (κ : t.I × List AV → Option R) => packK t cs (two κ)
 | .pair a b, cs => by
  have := Det.bind (packK_det a cs) (h := fun p R (κ : (Ty.pair a b).I × List AV → Option R) => packK b p.2 (two fun q => κ ((p.1, q.1), q.2))) (fun p => Det.bind (packK_det b p.2) (h := fun q R (κ : (Ty.pair a b).I × List AV → Option R) => κ ((p.1, q.1), q.2)) fun q => Det.pure _)
  exact this
 | .unit, cs => fun _ _ => rfl
 | .sl t, cs => slK_det t cs
 | .bool, cs => leafK_det .bool cs
 | .int k, cs => leafK_det (.int k) cs
 | .str, cs => leafK_det .str cs
 | .arr n t, cs => leafK_det (.arr n t) cs
theorem newK_det (o : Objs) (n : Nat) (x : Obj) : Det fun R κ => newK o n x κ := by
 intro R κ
 show newK o n x κ = (newK o n x some).bind κ
 unfold newK
 split <;> rfl
theorem resolveK_det : ∀ (cs : List AV) (o : Objs), Det fun R (κ : List AV × Objs → Option R) => resolveK cs o (two κ)
 | [], o => fun _ _ => rfl
 | c :: rest, o => by
  cases c with
  | row n =>
   intro R κ
   show resolveK (.row n :: rest) o (two κ) = (resolveK (.row n :: rest) o (two some)).bind κ
   unfold resolveK
   split
   ·exact (Det.bind (resolveK_det rest _) (h := fun p R (κ : List AV × Objs → Option R) => κ (_ :: p.1, p.2)) fun p => Det.pure _) R κ
   ·rfl
  | _ => exact Det.bind (resolveK_det rest o) (h := fun p R (κ : List AV × Objs → Option R) => κ (_ :: p.1, p.2)) fun p => Det.pure _
end Go.Den
set_option linter.unusedVariables false
set_option linter.unusedSimpArgs false
namespace Go.Den
theorem headK_det (cs : List AV) : Det fun R κ => headK cs κ := by
 intro R κ; show headK cs κ = (headK cs some).bind κ
 cases cs <;> rfl
theorem fromCells_det (Θ : Nat → TD) (t : Nat) (cs : List AV) : Det fun R κ => fromCells Θ t cs κ := by
 intro R κ; show fromCells Θ t cs κ = (fromCells Θ t cs some).bind κ
 unfold fromCells
 split
 ·split <;> rfl
 ·split
  ·split <;> rfl
  ·rfl
 ·rfl
 ·exact headK_det cs R κ
theorem loadK_det (Θ : Nat → TD) (t : Nat) (x : AV) (o : Objs) : Det fun R κ => loadK Θ t x o κ := by
 intro R κ; show loadK Θ t x o κ = (loadK Θ t x o some).bind κ
 unfold loadK
 split
 ·split
  ·exact fromCells_det Θ t _ R κ
  ·split
   ·split <;> rfl
   ·rfl
  ·split
   ·exact fromCells_det Θ t _ R κ
   ·rfl
  ·rfl
 ·exact fromCells_det Θ t _ R κ
 ·split
  ·split
   ·exact fromCells_det Θ t _ R κ
   ·rfl
  ·split
   ·exact fromCells_det Θ t _ R κ
   ·rfl
  ·rfl
 ·rfl
theorem storeK_det (Θ : Nat → TD) (t : Nat) (x v : AV) (o : Objs) : Det fun R κ => storeK Θ t x v o κ := by
 intro R κ; show storeK Θ t x v o κ = (storeK Θ t x v o some).bind κ
 unfold storeK
 split
 ·split
  ·split <;> rfl
  ·split
   ·split
    ·split <;> rfl
    ·rfl
   ·rfl
  ·split
   ·split <;> rfl
   ·rfl
  ·rfl
 ·rename_i n i off
  split
  ·refine (Det.bind (resolveK_det (cellsOf v) o) (h := fun p R (κ : Objs → Option R) => match p.2 n with
    | some (.row el e l false) => match idx l i with
     | some x => if okK (Θ t).k = true ∧ p.1.length = (Θ t).sz ∧ off + p.1.length ≤ e.sz then
       packK e (putCells (leaves e x) off p.1) fun y _ => κ (upd p.2 n (.row el e (l.set i.toNat y) false))
      else none
     | none => none
    | some (.arr m e l) => match idx l i with
     | some x => if okK (Θ t).k = true ∧ p.1.length = (Θ t).sz ∧ off + p.1.length ≤ e.sz then
       packK e (putCells (leaves e x) off p.1) fun y _ => κ (upd p.2 n (.arr m e (l.set i.toNat y)))
      else none
     | none => none
    | _ => none) ?_) R κ
   intro p R κ
   simp only
   split
   ·rename_i el e l _
    split
    ·split
     ·exact Det.map (packK_det _ _) (fun q => upd p.2 n (.row el e (l.set i.toNat q.1) false)) R κ
     ·rfl
    ·rfl
   ·rename_i m e l _
    split
    ·split
     ·exact Det.map (packK_det _ _) (fun q => upd p.2 n (.arr m e (l.set i.toNat q.1))) R κ
     ·rfl
    ·rfl
   ·rfl
  ·rfl
 ·rfl
theorem intK_det (op : BinOp) (k : IntKind) (x y : Int) : Det fun R κ => intK op k x y κ := by
 intro R κ; show intK op k x y κ = (intK op k x y some).bind κ
 unfold intK
 split <;> first | rfl | (split <;> rfl)
theorem shiftK_det (left : Bool) (k : IntKind) (a b : Int) : Det fun R κ => shiftK left k a b κ := by
 intro R κ; show shiftK left k a b κ = (shiftK left k a b some).bind κ
 unfold shiftK
 split
 ·rfl
 ·split <;> rfl
theorem nilEq_det (op : BinOp) (c : Bool) : Det fun R κ => nilEq op c κ := by
 intro R κ; show nilEq op c κ = (nilEq op c some).bind κ
 unfold nilEq
 split <;> rfl
theorem eqK_det (Θ : Nat → TD) : ∀ (fs : List (Nat × Nat)) (k : Nat) (as bs : List AV), Det fun R κ => eqK Θ k fs as bs κ
 | [], k, [], [] => fun _ _ => rfl
 | [], k, [], _ :: _ => fun _ _ => rfl
 | [], k, _ :: _, _ => fun _ _ => rfl
 | _ :: _, k, [], _ => fun _ _ => rfl
 | _ :: _, k, _ :: _, [] => fun _ _ => rfl
 | (off, t) :: fs, k, a :: as, b :: bs => by
  intro R κ; show eqK Θ k ((off, t) :: fs) (a :: as) (b :: bs) κ = (eqK Θ k ((off, t) :: fs) (a :: as) (b :: bs) some).bind κ
  have ih := fun c : Bool => Det.bind (eqK_det Θ fs (k + 1) as bs) (h := fun c' R (κ : Bool → Option R) => κ (if c then c' else false)) fun c' => Det.pure _
  unfold eqK
  split
  ·split
   ·split
    ·exact ih _ R κ
    ·rfl
   ·split
    ·split
     ·exact ih _ R κ
     ·rfl
    ·rfl
   ·split
    ·exact ih _ R κ
    ·rfl
   ·rfl
  ·rfl
theorem binK_det (Θ : Nat → TD) (op : BinOp) (t : Nat) (x y : AV) : Det fun R κ => binK Θ op t x y κ := by
 intro R κ; show binK Θ op t x y κ = (binK Θ op t x y some).bind κ
 unfold binK
 split
 ·split
  ·exact shiftK_det _ _ _ _ R κ
  ·exact shiftK_det _ _ _ _ R κ
  ·split
   ·exact intK_det _ _ _ _ R κ
   ·rfl
 ·split
  ·exact nilEq_det _ _ R κ
  ·rfl
 ·split
  ·split <;> rfl
  ·rfl
  ·rfl
  ·rfl
  ·rfl
 ·split
  ·exact nilEq_det _ _ R κ
  ·rfl
 ·split
  ·exact nilEq_det _ _ R κ
  ·rfl
 ·split
  ·exact nilEq_det _ _ R κ
  ·rfl
 ·split
  ·exact nilEq_det _ _ R κ
  ·rfl
 ·split
  ·split
   ·exact (Det.bind (eqK_det _ _ _ _ _) (h := fun c R (κ : AV → Option R) => nilEq op c κ) fun c => nilEq_det op c) R κ
   ·rfl
  ·rfl
 ·rfl
theorem elemsK_det (t : Ty) (y : AV) (o : Objs) : Det fun R κ => elemsK t y o κ := by
 intro R κ; show elemsK t y o κ = (elemsK t y o some).bind κ
 unfold elemsK
 split
 ·split <;> rfl
 ·split
  ·split <;> rfl
  ·rfl
 ·split
  ·split
   ·split <;> rfl
   ·rfl
  ·rfl
 ·rfl
 ·split <;> rfl
 ·rfl
noncomputable def appK {R : Type} (Θ : Nat → TD) (e : Nat) (t : Ty) (dst : Nat) (x : AV) (o : Objs) (ys : List t.I) (κ : AV → Objs → Option R) : Option R :=
 match x with
 | .nilsl => if (ys.length) * (Θ e).nb ≤ lim then newK o (nm dst 0) (.row e t ys false) fun o => κ (.row (nm dst 0)) o else none
 | .row n => match o n with
  | some (.row e' t' l frz) => if h : t' = t then
    if e' = e then
     if (l.length + ys.length) * (Θ e).nb ≤ lim then newK (upd o n .gone) (nm dst 0) (.row e t ((h ▸ l) ++ ys) frz) fun o => κ (.row (nm dst 0)) o else none
    else none
   else none
  | _ => none
 | .win n a b => match o n with
  | some (.row e' t' l frz) => if h : t' = t then
    if e' = e ∧ frz = false ∧ a = 0 then
     if b + ys.length ≤ l.length then κ (.win n 0 (b + ys.length)) (upd o n (.row e' t ((h ▸ l : List t.I).take b ++ ys ++ (h ▸ l : List t.I).drop (b + ys.length)) false)) else none
    else none
   else none
  | _ => none
 | _ => none
theorem appendK_eq {R : Type} (Θ : Nat → TD) (e : Nat) (t : Ty) (dst : Nat) (x y : AV) (o : Objs) (κ : AV → Objs → Option R) : appendK Θ e t dst x y o κ = elemsK t y o fun ys => appK Θ e t dst x o ys κ := by
 cases x <;> rfl
theorem appK_det (Θ : Nat → TD) (e : Nat) (t : Ty) (dst : Nat) (x : AV) (o : Objs) (ys : List t.I) : Det fun R (κ : AV × Objs → Option R) => appK Θ e t dst x o ys (two κ) := by
 intro R κ; show appK Θ e t dst x o ys (two κ) = (appK Θ e t dst x o ys (two some)).bind κ
 unfold appK
 split
 ·split
  ·exact Det.map (newK_det _ _ _) (fun o => (AV.row (nm dst 0), o)) R κ
  ·rfl
 ·split
  ·split
   ·split
    ·split
     ·exact Det.map (newK_det _ _ _) (fun o => (AV.row (nm dst 0), o)) R κ
     ·rfl
    ·rfl
   ·rfl
  ·rfl
 ·split
  ·split
   ·split
    ·split <;> rfl
    ·rfl
   ·rfl
  ·rfl
 ·rfl
theorem appendK_det (Θ : Nat → TD) (e : Nat) (t : Ty) (dst : Nat) (x y : AV) (o : Objs) : Det fun R (κ : AV × Objs → Option R) => appendK Θ e t dst x y o (two κ) := by
 intro R κ
 show appendK Θ e t dst x y o (two κ) = (appendK Θ e t dst x y o (two some)).bind κ
 rw [appendK_eq, appendK_eq]
 exact Det.bind (elemsK_det t y o) (h := fun ys R (κ : AV × Objs → Option R) => appK Θ e t dst x o ys (two κ)) (fun ys => appK_det Θ e t dst x o ys) R κ
theorem copK_det (t : Ty) (x : AV) (o : Objs) (ys : List t.I) : Det fun R (κ : AV × Objs → Option R) => copK t x o ys (two κ) := by
 intro R κ; show copK t x o ys (two κ) = (copK t x o ys (two some)).bind κ
 unfold copK
 split
 ·split
  ·split
   ·split <;> rfl
   ·rfl
  ·rfl
 ·split
  ·split
   ·split
    ·split <;> rfl
    ·rfl
   ·rfl
  ·rfl
 ·split <;> rfl
 ·rfl
theorem clearK_det (t : Ty) (x : AV) (o : Objs) : Det fun R (κ : AV × Objs → Option R) => clearK t x o (two κ) := by
 intro R κ; show clearK t x o (two κ) = (clearK t x o (two some)).bind κ
 unfold clearK
 split
 ·split
  ·split
   ·split
    ·split <;> rfl
    ·rfl
   ·rfl
  ·rfl
 ·rfl
theorem copyK_det (t : Ty) (x y : AV) (o : Objs) : Det fun R (κ : AV × Objs → Option R) => copyK t x y o (two κ) :=
 Det.bind (elemsK_det t y o) (h := fun ys R (κ : AV × Objs → Option R) => copK t x o ys (two κ)) (fun ys => copK_det t x o ys)
theorem lenK_det (x : AV) (o : Objs) : Det fun R κ => lenK x o κ := by
 intro R κ; show lenK x o κ = (lenK x o some).bind κ
 unfold lenK
 split <;> first | rfl | (split <;> rfl)
theorem cutI_det (lo hi : Option Int) (n : Nat) : Det fun R (κ : Nat × Nat → Option R) => cutI lo hi n (two κ) := by
 intro R κ; show cutI lo hi n (two κ) = (cutI lo hi n (two some)).bind κ
 unfold cutI
 split <;> first | rfl | (split <;> rfl)
theorem cutK_det (lo hi : Option AV) (n : Nat) : Det fun R (κ : Nat × Nat → Option R) => cutK lo hi n (two κ) := by
 intro R κ; show cutK lo hi n (two κ) = (cutK lo hi n (two some)).bind κ
 unfold cutK
 split
 ·exact cutI_det _ _ n R κ
 ·rfl
theorem sliceK_det (Θ : Nat → TD) (tx : Nat) (x : AV) (lo hi : Option AV) (o : Objs) : Det fun R (κ : AV × Objs → Option R) => sliceK Θ tx x lo hi o (two κ) := by
 intro R κ; show sliceK Θ tx x lo hi o (two κ) = (sliceK Θ tx x lo hi o (two some)).bind κ
 unfold sliceK
 split
 ·split
  ·rename_i s
   exact Det.map (cutK_det _ _ _) (fun p => (AV.d .str (s.extract p.1 p.2), o)) R κ
  ·rfl
 ·split
  ·rename_i t l
   split
   ·exact Det.map (cutK_det _ _ _) (fun p => (AV.d (.sl t) ((l.take p.2).drop p.1), o)) R κ
   ·rfl
  ·rename_i n
   split
   ·rename_i el t l _ _
    split
    ·exact Det.map (cutK_det _ _ _) (fun p => (AV.d (.sl t) ((l.take p.2).drop p.1), upd o n (.row el t l true))) R κ
    ·rfl
   ·rfl
  ·rfl
 ·split
  ·rename_i n off
   split
   ·rename_i m' t l _
    split
    ·exact Det.map (cutK_det _ _ _) (fun p => (AV.d (.sl t) ((l.take p.2).drop p.1), upd o n .gone)) R κ
    ·rfl
   ·rfl
  ·rfl
 ·rfl
theorem cutW_det (lo hi : Option Int) (n c : Nat) : Det fun R (κ : Nat × Nat → Option R) => cutW lo hi n c (two κ) := by
 intro R κ; show cutW lo hi n c (two κ) = (cutW lo hi n c (two some)).bind κ
 unfold cutW
 split <;> first | rfl | (split <;> rfl)
theorem cutX_det (lo hi : Option AV) (n c : Nat) : Det fun R (κ : Nat × Nat → Option R) => cutX lo hi n c (two κ) := by
 intro R κ; show cutX lo hi n c (two κ) = (cutX lo hi n c (two some)).bind κ
 unfold cutX
 split
 ·exact cutW_det _ _ n c R κ
 ·rfl
theorem winK_det (Θ : Nat → TD) (tx : Nat) (x : AV) (lo hi : Option AV) (o : Objs) : Det fun R κ => winK Θ tx x lo hi o κ := by
 intro R κ; show winK Θ tx x lo hi o κ = (winK Θ tx x lo hi o some).bind κ
 unfold winK
 split
 ·split
  ·rename_i s
   exact Det.map (cutK_det _ _ _) (fun p => AV.d .str (s.extract p.1 p.2)) R κ
  ·rfl
 ·split
  ·rename_i t l
   split
   ·exact Det.map (cutK_det _ _ _) (fun p => AV.d (.sl t) ((l.take p.2).drop p.1)) R κ
   ·rfl
  ·rename_i n
   split
   ·split
    ·exact Det.map (cutX_det _ _ _ _) (fun p => AV.win n p.1 p.2) R κ
    ·rfl
   ·rfl
  ·rename_i n a0 b0
   split
   ·split
    ·split
     ·exact Det.map (cutX_det _ _ _ _) (fun p => AV.win n (a0 + p.1) (a0 + p.2)) R κ
     ·rfl
    ·rfl
   ·rfl
  ·rfl
 ·rfl
theorem win3K_det (Θ : Nat → TD) (tx : Nat) (x : AV) (lo hi : Option AV) (mx : AV) (o : Objs) : Det fun R κ => win3K Θ tx x lo hi mx o κ := by
 intro R κ; show win3K Θ tx x lo hi mx o κ = (win3K Θ tx x lo hi mx o some).bind κ
 unfold win3K
 split
 ·split
  ·split
   ·split
    ·split
     ·split
      ·split
       ·rfl
       ·split <;> rfl
      ·rfl
     ·rfl
    ·rfl
   ·rfl
  ·rfl
 ·rfl
theorem indexAddrK_det (Θ : Nat → TD) (tx : Nat) (x : AV) (i : Int) (o : Objs) : Det fun R κ => indexAddrK Θ tx x i o κ := by
 intro R κ; show indexAddrK Θ tx x i o κ = (indexAddrK Θ tx x i o some).bind κ
 unfold indexAddrK
 split
 ·split
  ·split
   ·split <;> rfl
   ·rfl
  ·split
   ·split
    ·split <;> rfl
    ·rfl
   ·rfl
  ·rfl
 ·split
  ·split
   ·split
    ·split <;> rfl
    ·rfl
   ·rfl
  ·split
   ·split
    ·split <;> rfl
    ·rfl
   ·rfl
  ·rfl
 ·rfl
theorem selK_det {A : Type} {h : Nat → (R : Type) → (A → Option R) → Option R} (i : Int) (hh : ∀ j, Det (h j)) : ∀ (zs : List Int) (j : Nat), Det fun R κ => selK i zs j fun j => h j R κ
 | [], j => fun R κ => rfl
 | z :: zs, j => fun R κ => by
  show selK i (z :: zs) j (fun j => h j R κ) = (selK i (z :: zs) j (fun j => h j A some)).bind κ
  unfold selK
  split
  ·exact hh j R κ
  ·exact selK_det i hh zs (j + 1) R κ
theorem indexK_det (Θ : Nat → TD) (tx : Nat) (x : AV) (i : Int) : Det fun R κ => indexK Θ tx x i κ := by
 intro R κ; show indexK Θ tx x i κ = (indexK Θ tx x i some).bind κ
 unfold indexK
 split
 ·split
  ·split <;> rfl
  ·rfl
 ·split
  ·split
   ·split
    ·exact fromCells_det Θ _ _ R κ
    ·rfl
   ·rfl
  ·split
   ·rename_i m e hk0 x0 cs hc0
    exact selK_det (h := fun j R (κ : AV → Option R) => fromCells Θ e ((cs.drop (j * (Θ e).sz)).take (Θ e).sz) κ) i (fun j => fromCells_det Θ e _) _ 0 R κ
   ·rfl
  ·rfl
 ·rfl
theorem convK_det (Θ : Nat → TD) (src dst tdst : Nat) (x : AV) (o : Objs) : Det fun R (κ : AV × Objs → Option R) => convK Θ src dst tdst x o (two κ) := by
 intro R κ; show convK Θ src dst tdst x o (two κ) = (convK Θ src dst tdst x o (two some)).bind κ
 unfold convK
 split
 ·rfl
 ·rfl
 ·split
  ·split
   ·exact Det.map (newK_det o _ _) (fun o => (AV.row (nm tdst 0), o)) R κ
   ·rfl
  ·rfl
 ·split
  ·split
   ·rfl
   ·rfl
   ·exact Det.map (elemsK_det (.int .u8) _ o) (fun l => (AV.d .str (strOf l), o)) R κ
  ·rfl
 ·rfl
theorem fillK_det (Θ : Nat → TD) (fs : List (Nat × Nat)) : ∀ (ps : List (Nat × AV)) (cs : List AV), Det fun R κ => fillK Θ fs ps cs κ
 | [], cs => fun _ _ => rfl
 | (i, v) :: rest, cs => by
  intro R κ; show fillK Θ fs ((i, v) :: rest) cs κ = (fillK Θ fs ((i, v) :: rest) cs some).bind κ
  unfold fillK
  split
  ·split
   ·exact fillK_det Θ fs rest _ R κ
   ·rfl
  ·rfl
theorem partsK_det (t : Ty) : ∀ (ps : List (Nat × AV)) (o : Objs), Det fun R (κ : List t.I × Objs → Option R) => partsK t ps o (two κ)
 | [], o => fun _ _ => rfl
 | (i, v) :: rest, o => by
  intro R κ; show partsK t ((i, v) :: rest) o (two κ) = (partsK t ((i, v) :: rest) o (two some)).bind κ
  unfold partsK
  split
  ·have h3 : ∀ (y : t.I) (o : Objs), Det fun R (κ : List t.I × Objs → Option R) => partsK t rest o fun xs o => two κ (y :: xs) o := fun y o => Det.map (partsK_det t rest o) fun s => (y :: s.1, s.2)
   have h2 : ∀ p : List AV × Objs, Det fun R (κ : List t.I × Objs → Option R) => packK t p.1 fun x _ => partsK t rest p.2 fun xs o => two κ (x :: xs) o := fun p =>
    Det.bind (packK_det t p.1) (h := fun (q : t.I × List AV) R (κ : List t.I × Objs → Option R) => partsK t rest p.2 fun xs o => two κ (q.1 :: xs) o) fun q => h3 q.1 p.2
   exact (Det.bind (resolveK_det (cellsOf v) o) (h := fun p R (κ : List t.I × Objs → Option R) => packK t p.1 fun x _ => partsK t rest p.2 fun xs o => two κ (x :: xs) o) h2) R κ
  ·rfl
theorem buildK_det (Θ : Nat → TD) (t : Nat) (ps : List (Nat × AV)) (o : Objs) : Det fun R (κ : AV × Objs → Option R) => buildK Θ t ps o (two κ) := by
 intro R κ; show buildK Θ t ps o (two κ) = (buildK Θ t ps o (two some)).bind κ
 unfold buildK
 split
 ·exact (Det.bind (fillK_det _ _ _ _) (h := fun cs R (κ : AV × Objs → Option R) => κ (.agg cs, o)) fun p => Det.pure _) R κ
 ·split
  ·split
   ·rename_i n e _ _ te _ _
    exact Det.map (partsK_det te ps o) (fun p => (AV.d (.arr n te) p.1, p.2)) R κ
   ·rfl
  ·split <;> rfl
 ·rfl
theorem nilCheckK_det (x : AV) : Det fun R κ => nilCheckK x κ := by
 intro R κ; show nilCheckK x κ = (nilCheckK x some).bind κ
 unfold nilCheckK
 split <;> rfl
theorem fieldAddrK_det (off : Nat) (x : AV) : Det fun R κ => fieldAddrK off x κ := by
 intro R κ; show fieldAddrK off x κ = (fieldAddrK off x some).bind κ
 unfold fieldAddrK
 split <;> rfl
theorem makeK_det (nb : Nat) (l c : Int) : Det fun R κ => makeK nb l c κ := by
 intro R κ; show makeK nb l c κ = (makeK nb l c some).bind κ
 unfold makeK
 split <;> rfl
theorem arrK_det (Θ : Nat → TD) (t : Nat) : Det fun R (κ : Nat × Ty → Option R) => arrK Θ t (two κ) := by
 intro R κ; show arrK Θ t (two κ) = (arrK Θ t (two some)).bind κ
 unfold arrK
 split
 ·split
  ·split <;> rfl
  ·rfl
 ·rfl
theorem pb1_det (p : PB) (v : AV) (m : Nat) (o : Objs) : Det fun R (κ : Objs → Option R) => pb1 p v m o κ := by
 intro R κ
 show pb1 p v m o κ = (pb1 p v m o some).bind κ
 unfold pb1
 cases p with
 | own root path c e ty mv =>
  simp only
  split
  ·rename_i n _
   split
   ·rename_i cs _
    split
    ·split
     ·exact (Det.bind (newK_det o m (.row e ty [] false)) (h := fun (o : Objs) R (κ : Objs → Option R) => κ (upd o n (.box (cs.set c (.row m))))) fun o R κ => rfl) R κ
     ·rfl
    ·split
     ·split <;> rfl
     ·rfl
    ·rfl
   ·rfl
  ·rfl
 | frz root path c ty =>
  simp only
  split
  ·split
   ·split
    ·split <;> rfl
    ·split <;> rfl
    ·rfl
   ·rfl
  ·rfl
 | kill k =>
  simp only
  split <;> rfl
theorem pbK_det : ∀ (l : List PB) (v : AV) (m : Nat) (o : Objs), Det fun R (κ : Objs → Option R) => pbK l v m o κ
 | [], _, _, _ => fun _ _ => rfl
 | p :: rest, v, m, o => Det.bind (pb1_det p v m o) (h := fun (o : Objs) R (κ : Objs → Option R) => pbK rest v (m + 8) o κ) fun o => pbK_det rest v (m + 8) o
theorem prepK_det : ∀ (ms : List Mode) (vs : List AV) (j : Nat) (o : Objs), Det fun R (κ : List AV × Objs → Option R) => prepK ms vs j o (two κ)
 | [], [], j, o => fun _ _ => rfl
 | [], _ :: _, j, o => fun _ _ => rfl
 | m :: ms, [], j, o => by
  intro R κ; show prepK (m :: ms) [] j o (two κ) = (prepK (m :: ms) [] j o (two some)).bind κ
  unfold prepK
  cases m with
  | pb l => exact (Det.bind (pbK_det l .dead (j + 8) o) (h := fun (o : Objs) R (κ : List AV × Objs → Option R) => two κ [] o) fun o R κ => rfl) R κ
  | _ => rfl
 | m :: ms, v :: vs, j, o => by
  intro R κ; show prepK (m :: ms) (v :: vs) j o (two κ) = (prepK (m :: ms) (v :: vs) j o (two some)).bind κ
  have ih : ∀ (x : AV) (o : Objs), Det fun R (κ : List AV × Objs → Option R) => prepK ms vs (j + 1) o fun vs o => two κ (x :: vs) o := fun x o => Det.map (prepK_det ms vs (j + 1) o) fun p => (x :: p.1, p.2)
  unfold prepK
  cases m with
  | own e t =>
   simp only
   split
   ·split
    ·exact (Det.bind (newK_det _ _ _) (h := fun o R (κ : List AV × Objs → Option R) => prepK ms vs (j + 1) o fun vs o => two κ (.row j :: vs) o) fun o => ih (.row j) o) R κ
    ·rfl
   ·exact ih _ o R κ
  | raw => exact ih _ o R κ
  | mv e t =>
   simp only
   split
   ·split
    ·exact (Det.bind (newK_det _ _ _) (h := fun o R (κ : List AV × Objs → Option R) => prepK ms vs (j + 1) o fun vs o => two κ (.row j :: vs) o) fun o => ih (.row j) o) R κ
    ·rfl
   ·split
    ·exact (Det.bind (newK_det _ _ _) (h := fun o R (κ : List AV × Objs → Option R) => prepK ms vs (j + 1) o fun vs o => two κ (.row j :: vs) o) fun o => ih (.row j) o) R κ
    ·rfl
   ·split
    ·split
     ·exact (Det.bind (newK_det _ _ _) (h := fun o R (κ : List AV × Objs → Option R) => prepK ms vs (j + 1) o fun vs o => two κ (.row j :: vs) o) fun o => ih (.row j) o) R κ
     ·rfl
    ·rfl
   ·rfl
  | pb l => exact (Det.bind (pbK_det l v (j + 8) o) (h := fun (o : Objs) R (κ : List AV × Objs → Option R) => prepK ms vs (j + 1) o fun vs o => two κ (v :: vs) o) fun o => ih v o) R κ
  | fz =>
   simp only
   split
   ·rename_i n off
    split
    ·rename_i cs _
     have h2 : ∀ p : List AV × Objs, Det fun R (κ : List AV × Objs → Option R) => match p.2 n with
       | some (.box _) => prepK ms vs (j + 1) (upd p.2 n (.box p.1)) fun vs o => two κ (.ptr n off :: vs) o
       | _ => none := fun p => by
      intro R κ
      dsimp only
      split
      ·exact ih (.ptr n off) _ R κ
      ·rfl
     exact (Det.bind (resolveK_det cs o) (h := fun p R (κ : List AV × Objs → Option R) => match p.2 n with
       | some (.box _) => prepK ms vs (j + 1) (upd p.2 n (.box p.1)) fun vs o => two κ (.ptr n off :: vs) o
       | _ => none) h2) R κ
    ·rfl
   ·rfl
  | dat t ag =>
   simp only
   split
   ·have h2 : ∀ p : List AV × Objs, Det fun R (κ : List AV × Objs → Option R) => packK t p.1 fun x _ => prepK ms vs (j + 1) p.2 fun vs o => two κ (ofD ag t x :: vs) o := fun p =>
     Det.bind (packK_det t p.1) (h := fun (q : t.I × List AV) R (κ : List AV × Objs → Option R) => prepK ms vs (j + 1) p.2 fun vs o => two κ (ofD ag t q.1 :: vs) o) fun q => ih (ofD ag t q.1) p.2
    exact (Det.bind (resolveK_det (cellsOf v) o) (h := fun p R (κ : List AV × Objs → Option R) => packK t p.1 fun x _ => prepK ms vs (j + 1) p.2 fun vs o => two κ (ofD ag t x :: vs) o) h2) R κ
   ·rfl
theorem objsAt_det (o : Objs) (f : Nat → Option Nat) : ∀ ns : List Nat, Det fun R κ => objsAt o f ns κ
 | [] => fun _ _ => rfl
 | n :: ns => by
  intro R κ; show objsAt o f (n :: ns) κ = (objsAt o f (n :: ns) some).bind κ
  unfold objsAt
  split
  ·rename_i x _
   exact Det.map (objsAt_det o f ns) (fun xs => renO f x :: xs) R κ
  ·rfl
def SumDet (S : Sum) : Prop := ∀ avs objs, Det fun R (κ : List AV × List Obj → Option R) => S.run avs objs (two κ)
theorem callK_det {S : Sum} (hS : SumDet S) (dst : Nat) (args : List AV) (o : Objs) : Det fun R (κ : AV × Objs → Option R) => callK S dst args o (two κ) := by
 unfold callK
 simp only [forceNs_eq]
 refine Det.bind (prepK_det _ _ _ _) (h := fun p R (κ : AV × Objs → Option R) =>
  let ns := gather p.2 200 (namesL p.1) []
  if placeOk ns 0 ns = true then
  objsAt p.2 (place ns) ns fun objs =>
  S.run (renL (place ns) p.1) objs fun rs os =>
  if ns.length ≤ os.length ∧ freeK p.2 dst (os.length - ns.length) = true then
   two κ (renV (backO ns dst os.length) (tupOf rs)) (setAll (backO ns dst os.length) 0 os p.2)
  else none
  else none) ?_
 intro p
 refine Det.ite ?_ Det.none
 refine Det.bind (objsAt_det _ _ _) (h := fun objs R (κ : AV × Objs → Option R) => S.run (renL (place (gather p.2 200 (namesL p.1) [])) p.1) objs fun rs os =>
  if (gather p.2 200 (namesL p.1) []).length ≤ os.length ∧ freeK p.2 dst (os.length - (gather p.2 200 (namesL p.1) []).length) = true then
   two κ (renV (backO (gather p.2 200 (namesL p.1) []) dst os.length) (tupOf rs)) (setAll (backO (gather p.2 200 (namesL p.1) []) dst os.length) 0 os p.2)
  else none) ?_
 intro objs
 refine Det.bind (hS _ objs) (h := fun q R (κ : AV × Objs → Option R) => if (gather p.2 200 (namesL p.1) []).length ≤ q.2.length ∧ freeK p.2 dst (q.2.length - (gather p.2 200 (namesL p.1) []).length) = true then
   two κ (renV (backO (gather p.2 200 (namesL p.1) []) dst q.2.length) (tupOf q.1)) (setAll (backO (gather p.2 200 (namesL p.1) []) dst q.2.length) 0 q.2 p.2)
  else none) ?_
 intro q
 exact Det.ite (Det.pure (_, _)) Det.none
end Go.Den
set_option linter.unusedVariables false
set_option linter.unusedSimpArgs false
namespace Go.Den
def GDet (E : Env) : Prop := ∀ f S, E.Γ f = some S → SumDet S
theorem builtinK_det (Θ : Nat → TD) (b : Builtin) (ats : List Nat) (dst : Nat) (args : List AV) (o : Objs) : Det fun R (κ : AV × Objs → Option R) => builtinK Θ b ats dst args o (two κ) := by
 intro R κ; show builtinK Θ b ats dst args o (two κ) = (builtinK Θ b ats dst args o (two some)).bind κ
 unfold builtinK
 split
 ·split
  ·split
   ·split <;> rfl
   ·rfl
   ·split
    ·rfl
    ·exact Det.map (lenK_det _ o) (fun v => (v, o)) R κ
   ·rfl
  ·rfl
 ·split
  ·split
   ·exact appendK_det Θ _ _ dst _ _ o R κ
   ·exact appendK_det Θ _ _ dst _ _ o R κ
   ·rfl
  ·rfl
 ·split
  ·split
   ·exact copyK_det _ _ _ o R κ
   ·rfl
  ·rfl
 ·split
  ·split
   ·exact clearK_det _ _ o R κ
   ·rfl
  ·rfl
 ·split <;> rfl
 ·split <;> rfl
 ·rfl
theorem bldK_det (Θ : Nat → TD) (t dst : Nat) (o : Objs) : Det fun R (κ : AV × Objs → Option R) => bldK Θ t dst o (two κ) := by
 intro R κ; show bldK Θ t dst o (two κ) = (bldK Θ t dst o (two some)).bind κ
 unfold bldK
 split
 ·rename_i e te _
  split
  ·exact Det.bind (newK_det o (nm dst 1) (.row e te [] false)) (h := fun (o : Objs) R (κ : AV × Objs → Option R) => newK o (nm dst 0) (.bld t (.row (nm dst 1))) fun o => two κ (.ptr (nm dst 0) 0) o) (fun o => Det.map (newK_det o (nm dst 0) _) (fun o => (AV.ptr (nm dst 0) 0, o))) R κ
  ·rfl
 ·rfl
theorem opK_det {E : Env} (hE : GDet E) (op : Op) (dst : Nat) (s : List AV) (o : Objs) : Det fun R (κ : AV × Objs → Option R) => opK E op dst s o (two κ) := by
 intro R κ; show opK E op dst s o (two κ) = (opK E op dst s o (two some)).bind κ
 cases op with
 | move x => rfl
 | assign x => rfl
 | pick c a b =>
  simp only [opK]
  split
  ·split <;> rfl
  ·rfl
 | alloc t =>
  simp only [opK]
  split
  ·exact bldK_det E.Θ t dst o R κ
  split
  ·split
   ·exact (Det.bind (arrK_det E.Θ t) (h := fun (p : Nat × Ty) R (κ : AV × Objs → Option R) => newK o (nm dst 0) (.arr p.1 p.2 (List.replicate p.1 (zeroI p.2))) fun o => two κ (.ptr (nm dst 0) 0) o) fun p => Det.map (newK_det _ _ _) fun o => (AV.ptr (nm dst 0) 0, o)) R κ
   ·exact Det.map (newK_det o (nm dst 0) _) (fun o => (AV.ptr (nm dst 0) 0, o)) R κ
  ·rfl
  ·exact Det.map (newK_det o (nm dst 0) _) (fun o => (AV.ptr (nm dst 0) 0, o)) R κ
 | box t v =>
  simp only [opK]
  split
  ·exact Det.map (newK_det o (nm dst 0) _) (fun o => (AV.ptr (nm dst 0) 0, o)) R κ
  ·split
   ·exact Det.map (newK_det o (nm dst 0) _) (fun o => (AV.ptr (nm dst 0) 0, o)) R κ
   ·rfl
 | build t parts => exact buildK_det E.Θ t _ o R κ
 | buildSlice t len parts =>
  simp only [opK]
  split
  ·rename_i e te _
   split
   ·exact (Det.bind (partsK_det te _ o) (h := fun (p : List te.I × Objs) R (κ : AV × Objs → Option R) => newK p.2 (nm dst 0) (.row e te p.1 false) fun o => two κ (.row (nm dst 0)) o) fun p => Det.map (newK_det _ _ _) fun o => (AV.row (nm dst 0), o)) R κ
   ·rfl
  ·rfl
 | load t x => exact Det.map (loadK_det E.Θ t _ o) (fun v => (v, o)) R κ
 | store t x v => exact Det.map (storeK_det E.Θ t _ _ o) (fun o => (AV.dead, o)) R κ
 | nilCheck x => exact Det.map (nilCheckK_det _) (fun v => (v, o)) R κ
 | binOp op t x y _ => exact Det.map (binK_det E.Θ op t _ _) (fun v => (v, o)) R κ
 | unOp op t x =>
  simp only [opK]
  split <;> rfl
 | convert src d x => exact convK_det E.Θ src d dst _ o R κ
 | makeFunc f first caps => cases f <;> rfl
 | makeSlice t l c =>
  simp only [opK]
  split
  ·rename_i e te l c _ _ _
   exact (Det.bind (makeK_det (E.Θ e).nb l c) (h := fun (n : Nat) R (κ : AV × Objs → Option R) => newK o (nm dst 0) (.row e te (List.replicate n (zeroI te)) false) fun o => two κ (.row (nm dst 0)) o) fun n => Det.map (newK_det _ _ _) fun o => (AV.row (nm dst 0), o)) R κ
  ·rfl
 | slice t x lo hi mx =>
  cases mx with
  | none =>
   simp only [opK]
   cases winOn E with
   | true => exact Det.map (winK_det E.Θ t _ _ _ o) (fun v => (v, o)) R κ
   | false => exact sliceK_det E.Θ t _ _ _ o R κ
  | some m =>
   simp only [opK]
   cases winOn E with
   | true => exact Det.map (win3K_det E.Θ t _ _ _ _ o) (fun v => (v, o)) R κ
   | false => rfl
 | fieldAddr t x f =>
  simp only [opK]
  split
  ·split
   ·exact Det.map (fieldAddrK_det _ _) (fun v => (v, o)) R κ
   ·rfl
  ·rfl
 | field t x f =>
  simp only [opK]
  split
  ·exact Det.map (fromCells_det _ _ _) (fun v => (v, o)) R κ
  ·rfl
 | indexAddr t x i =>
  simp only [opK]
  split
  ·exact Det.map (indexAddrK_det _ _ _ _ _) (fun v => (v, o)) R κ
  ·rfl
 | index t x i =>
  simp only [opK]
  split
  ·exact Det.map (indexK_det _ _ _ _) (fun v => (v, o)) R κ
  ·rfl
 | extract x i =>
  simp only [opK]
  split
  ·split <;> rfl
  ·rfl
 | call c =>
  simp only [opK]
  split
  ·exact builtinK_det E.Θ _ _ dst _ o R κ
  ·split
   ·split
    ·rename_i S hS
     exact callK_det (hE _ S hS) dst _ o R κ
    ·rfl
   ·rfl
  ·rfl
 | _ => rfl
theorem denOps_det {E : Env} (hE : GDet E) (all : List Oper) : ∀ (ops : List Oper) (st : St), Det fun R κ => denOps E all ops st κ
 | [], st => Det.pure st
 | op :: rest, st => by
  have go : ∀ s, Det fun R (κ : St → Option R) => opK E op.op (op.dst.getD 0) s st.o fun v o => denOps E all rest ⟨putS s op.dst v, o, st.m⟩ κ := fun s =>
   Det.bind (opK_det hE op.op (op.dst.getD 0) s st.o) (h := fun (p : AV × Objs) R (κ : St → Option R) => denOps E all rest ⟨putS s op.dst p.1, p.2, st.m⟩ κ) fun p => denOps_det hE all rest _
  intro R κ; show denOps E all (op :: rest) st κ = (denOps E all (op :: rest) st some).bind κ
  unfold denOps
  split
  ·exact go _ R κ
  ·split
   ·split
    ·split
     ·split
      ·exact go _ R κ
      ·exact denOps_det hE all rest _ R κ
     ·split
      ·exact denOps_det hE all rest _ R κ
      ·exact go _ R κ
    ·exact denOps_det hE all rest _ R κ
    ·rfl
   ·rfl
theorem opV_det {E : Env} (hE : GDet E) (F : List Nat) (op : Op) (dst : Nat) (s : List AV) (o : Objs) : Det fun R (κ : AV × Objs → Option R) => opV E F op dst s o (two κ) :=
 Det.map (opK_det hE op dst (renL (onF F) s) (viewF F o)) fun p => (renV (onF F) p.1, overF F (viewF F p.2) o)
theorem denD_det {E : Env} (hE : GDet E) (all : Array Oper) (as : List Nat) : ∀ (ops : List Oper) (i : Nat) (st : St) (tr : List TE), Det fun R κ => denD E all as i ops st tr κ
 | [], i, st, tr => Det.pure st
 | op :: rest, i, st, tr => by
  have no : ∀ st : St, Det fun R (κ : St → Option R) => denD E all as (i + 1) rest ⟨putS st.s op.dst (.tup []), st.o, st.m⟩ tr κ := fun st => denD_det hE all as rest (i + 1) _ tr
  have go : ∀ st : St, Det fun R (κ : St → Option R) => (if isQ E op.op = true then
    (if clash as tr ⟨i, qF op.op st.s, false, none⟩ = false then opK E op.op (op.dst.getD 0) st.s st.o fun v _ => denD E all as (i + 1) rest ⟨putS st.s op.dst v, st.o, st.m⟩ (⟨i, qF op.op st.s, false, softOf op.op st.s v⟩ :: tr) κ else none)
   else
    (if clash as tr ⟨i, footW op.op (op.dst.getD 0) st.s st.o, true, none⟩ = false then opV E (footW op.op (op.dst.getD 0) st.s st.o) op.op (op.dst.getD 0) st.s st.o fun v o => if softOk E as tr i (footW op.op (op.dst.getD 0) st.s st.o) o = true then denD E all as (i + 1) rest ⟨putS st.s op.dst v, o, st.m⟩ (⟨i, footW op.op (op.dst.getD 0) st.s st.o, true, none⟩ :: tr) κ else none else none)) := by
   intro st
   refine Det.ite (Det.ite ?_ Det.none) (Det.ite ?_ Det.none)
   ·exact Det.bind (opK_det hE op.op (op.dst.getD 0) st.s st.o) (h := fun (p : AV × Objs) R (κ : St → Option R) => denD E all as (i + 1) rest ⟨putS st.s op.dst p.1, st.o, st.m⟩ (⟨i, qF op.op st.s, false, softOf op.op st.s p.1⟩ :: tr) κ) fun p => denD_det hE all as rest (i + 1) _ _
   ·exact Det.bind (opV_det hE _ op.op (op.dst.getD 0) st.s st.o) (h := fun (p : AV × Objs) R (κ : St → Option R) => if softOk E as tr i (footW op.op (op.dst.getD 0) st.s st.o) p.2 = true then denD E all as (i + 1) rest ⟨putS st.s op.dst p.1, p.2, st.m⟩ (⟨i, footW op.op (op.dst.getD 0) st.s st.o, true, none⟩ :: tr) κ else none) fun p => Det.ite (denD_det hE all as rest (i + 1) _ _) Det.none
  intro R κ; show denD E all as i (op :: rest) st tr κ = (denD E all as i (op :: rest) st tr some).bind κ
  unfold denD
  simp only [forceNs_eq]
  split
  ·exact go st R κ
  ·split
   ·rename_i g _
    split
    ·split
     ·split
      ·exact go ⟨st.s.set g (.d .bool true), st.o, st.m⟩ R κ
      ·exact no ⟨st.s.set g (.d .bool true), st.o, st.m⟩ R κ
     ·split
      ·exact no ⟨st.s.set g (.d .bool false), st.o, st.m⟩ R κ
      ·exact go ⟨st.s.set g (.d .bool false), st.o, st.m⟩ R κ
    ·exact no st R κ
    ·rfl
   ·rfl
theorem promote_det : ∀ (ps : List (Nat × Nat × Ty)) (s : List AV) (o : Objs), Det fun R (κ : List AV × Objs → Option R) => promote ps s o (two κ)
 | [], s, o => fun _ _ => rfl
 | (t, e, ty) :: rest, s, o => by
  intro R κ; show promote ((t, e, ty) :: rest) s o (two κ) = (promote ((t, e, ty) :: rest) s o (two some)).bind κ
  unfold promote
  split
  ·split
   ·rename_i n _ _
    split
    ·rename_i cs _
     split
     ·split
      ·exact (Det.bind (newK_det _ _ _) (h := fun (o : Objs) R (κ : List AV × Objs → Option R) => promote rest s (upd o n (.box (cs.set ((t - 1000) % 64) (.row (2000000 + t))))) (two κ)) fun o => promote_det rest _ _) R κ
      ·rfl
     ·exact promote_det rest s o R κ
    ·exact promote_det rest s o R κ
   ·exact promote_det rest s o R κ
  split
  ·split
   ·exact (Det.bind (newK_det _ _ _) (h := fun (o : Objs) R (κ : List AV × Objs → Option R) => promote rest (s.set t (.row (2000000 + t))) o (two κ)) fun o => promote_det rest _ o) R κ
   ·rfl
  ·exact promote_det rest s o R κ
theorem datK_det : ∀ (ts : List Nat) (s : List AV) (o : Objs), Det fun R (κ : List AV × Objs → Option R) => datK ts s o (two κ)
 | [], s, o => fun _ _ => rfl
 | t :: rest, s, o => by
  intro R κ; show datK (t :: rest) s o (two κ) = (datK (t :: rest) s o (two some)).bind κ
  unfold datK
  split
  ·split
   ·exact datK_det rest _ _ R κ
   ·exact datK_det rest s o R κ
  split
  ·split
   ·exact datK_det rest _ _ R κ
   ·rfl
  ·exact datK_det rest s o R κ
theorem thawK_det (A : LA) (s : List AV) (l : List (Nat × Obj)) (m : Nat) : Det fun R κ => thawK A s l m κ := by
 intro R κ; show thawK A s l m κ = (thawK A s l m some).bind κ
 unfold thawK
 split
 ·rfl
 ·split <;> rfl
theorem tidyK_det (A : LA) (st : St) : Det fun R κ => tidyK A st κ := by
 unfold tidyK
 simp only [forceNs_eq]
 exact Det.bind (promote_det A.prom st.s st.o) (h := fun (q : List AV × Objs) R (κ : St → Option R) => datK A.dat q.1 q.2 fun s0 o =>
  let s := keepS A.keep 0 s0
  let ns := (gather o 200 (namesOs o st.m ++ namesL s) []).filter (64 ≤ ·)
  let f := canon ns st.m
  if st.m ≤ 64 ∧ placeOk ns 0 ns = true then thawK A (renL f s) (pickO f o (List.range st.m ++ ns)) st.m κ else none) fun q =>
 Det.bind (datK_det A.dat q.1 q.2) (h := fun (p : List AV × Objs) R (κ : St → Option R) =>
  let s := keepS A.keep 0 p.1
  let ns := (gather p.2 200 (namesOs p.2 st.m ++ namesL s) []).filter (64 ≤ ·)
  let f := canon ns st.m
  if st.m ≤ 64 ∧ placeOk ns 0 ns = true then thawK A (renL f s) (pickO f p.2 (List.range st.m ++ ns)) st.m κ else none) fun p => Det.ite (thawK_det A _ _ _) Det.none
def exk {R : Type} (κ : Ex × St → Option R) : Ex → St → Option R := two κ
theorem loopN_det (A : LA) (body : (R : Type) → BodyK R) (hb : ∀ st, Det fun R (κ : Ex × St → Option R) => body R st (two κ)) : ∀ (k : Nat) (st : St), Det fun R (κ : Ex × St → Option R) => loopN A (body R) k st (two κ)
 | 0, st => Det.none
 | k + 1, st => by
  refine Det.bind (hb st) (h := fun (p : Ex × St) R (κ : Ex × St → Option R) => againK (fun st' => tidyK A st' fun st' => loopN A (body R) k st' (two κ)) (two κ) p.1 p.2) ?_
  intro p
  obtain ⟨e, st'⟩ := p
  cases e with
  | normal => exact Det.bind (tidyK_det A st') (h := fun (st' : St) R (κ : Ex × St → Option R) => loopN A (body R) k st' (two κ)) fun st' => loopN_det A body hb k st'
  | exit id => exact Det.pure (A := Ex × St) (.exit id, st')
  | ret => exact Det.pure (A := Ex × St) (.ret, st')
theorem denC_det {E : Env} (hE : GDet E) (fuel : Nat) : ∀ (c : Code) (st : St), Det fun R (κ : Ex × St → Option R) => denC E loopN fuel c st (two κ)
 | .skip, st => fun _ _ => rfl
 | .region id ops draw, st => by
  intro R κ; show denC E loopN fuel (.region id ops draw) st (two κ) = (denC E loopN fuel (.region id ops draw) st (two some)).bind κ
  unfold denC
  split
  ·split
   ·exact Det.map (denD_det hE ops _ ops.toList 0 st []) (fun st => (Ex.normal, st)) R κ
   ·rfl
  ·exact Det.map (denOps_det hE ops.toList ops.toList st) (fun st => (Ex.normal, st)) R κ
 | .seq a b, st => by
  refine Det.bind (denC_det hE fuel a st) (h := fun (p : Ex × St) R (κ : Ex × St → Option R) => match p.1 with
   | .normal => match isJ (E.A (rid b)) with
    | true => tidyK (E.A (rid b)) p.2 fun st => loopN (E.A (rid b)) (fun st _ => denC E loopN fuel b st (two κ)) fuel st fun _ _ => none
    | false => denC E loopN fuel b p.2 (two κ)
   | e => two κ e p.2) ?_
  rintro ⟨e, st'⟩
  cases e with
  | normal =>
   simp only
   cases isJ (E.A (rid b)) with
   | false => exact denC_det hE fuel b st'
   | true =>
    refine Det.bind (tidyK_det (E.A (rid b)) st') (h := fun (st : St) R (κ : Ex × St → Option R) => loopN (E.A (rid b)) (fun st _ => denC E loopN fuel b st (two κ)) fuel st fun _ _ => none) fun st => ?_
    have hd := denC_det hE fuel b st
    intro R κ
    show loopN (E.A (rid b)) (fun st _ => denC E loopN fuel b st (two κ)) fuel st (fun _ _ => none) = (loopN (E.A (rid b)) (fun st _ => denC E loopN fuel b st (two some)) fuel st fun _ _ => none).bind κ
    cases fuel with
    | zero => rfl
    | succ k => exact hd R κ
  | exit id => exact Det.pure (A := Ex × St) (.exit id, st')
  | ret => exact Det.pure (A := Ex × St) (.ret, st')
 | .cond c a b, st => by
  intro R κ; show denC E loopN fuel (.cond c a b) st (two κ) = (denC E loopN fuel (.cond c a b) st (two some)).bind κ
  unfold denC
  split
  ·split
   ·exact denC_det hE fuel a st R κ
   ·exact denC_det hE fuel b st R κ
  ·rfl
 | .block id b, st => by
  refine Det.bind (denC_det hE fuel b st) (h := fun (p : Ex × St) R (κ : Ex × St → Option R) => match p.1 with
   | .exit id' => if id' = id then two κ .normal p.2 else two κ (.exit id') p.2
   | e => two κ e p.2) ?_
  rintro ⟨e, st'⟩
  cases e with
  | normal => exact Det.pure (A := Ex × St) (.normal, st')
  | exit id' => exact Det.ite (Det.pure (A := Ex × St) (.normal, st')) (Det.pure (A := Ex × St) (.exit id', st'))
  | ret => exact Det.pure (A := Ex × St) (.ret, st')
 | .loop b, st =>
  Det.bind (tidyK_det (E.A (rid b)) st) (h := fun (st : St) R (κ : Ex × St → Option R) => loopN (E.A (rid b)) (fun st κ => denC E loopN fuel b st κ) fuel st (two κ)) fun st =>
   loopN_det (E.A (rid b)) (fun R => fun st κ => denC E loopN fuel b st κ) (fun st => denC_det hE fuel b st) fuel st
 | .exit id, st => fun _ _ => rfl
 | .ret, st => fun _ _ => rfl
 | .label _, st => fun _ _ => rfl
 | .goto _, st => fun _ _ => rfl
 | .scope b, st => denC_det hE fuel b st
 | .refuse _, st => fun _ _ => rfl
 | .rangeFunc _ _ _ _, st => fun _ _ => rfl
theorem resK_det (Θ : Nat → TD) (st : St) : ∀ rs : List ResultVar, Det fun R κ => resK Θ st rs κ
 | [] => fun _ _ => rfl
 | .tmp t :: rest => Det.map (resK_det Θ st rest) fun vs => getS st.s t :: vs
 | .cell a t :: rest => Det.bind (loadK_det Θ t _ st.o) (h := fun (v : AV) R (κ : List AV → Option R) => resK Θ st rest fun vs => κ (v :: vs)) fun v => Det.map (resK_det Θ st rest) fun vs => v :: vs
theorem outF_det (m : Nat) (o : Objs) (rs : List AV) : Det fun R (κ : List AV × List Obj → Option R) => outF m o rs (two κ) := by
 unfold outF
 simp only [forceNs_eq]
 exact Det.ite (Det.map (objsAt_det _ _ _) fun objs => (renL (place (List.range m ++ (gather o 200 (namesOs o m ++ namesL rs) []).filter (m ≤ ·))) rs, objs)) Det.none
theorem topK_det (E : Env) (fn : Func) (ms : List Mode) (m : Nat) (p : Ex × St) : Det fun R (κ : List AV × List Obj → Option R) => topK E fn ms m (two κ) p.1 p.2 := by
 obtain ⟨e, st⟩ := p
 have : Det fun R (κ : List AV × List Obj → Option R) => resK E.Θ st fn.results.toList fun rs => prepK ms rs 3000000 st.o fun rs o => outF m o rs (two κ) :=
  Det.bind (resK_det E.Θ st _) (h := fun (rs : List AV) R (κ : List AV × List Obj → Option R) => prepK ms rs 3000000 st.o fun rs o => outF m o rs (two κ)) fun rs =>
   Det.bind (prepK_det ms rs 3000000 st.o) (h := fun (p : List AV × Objs) R (κ : List AV × List Obj → Option R) => outF m p.2 p.1 (two κ)) fun p => outF_det m p.2 p.1
 cases e with
 | exit id => exact Det.none
 | normal => exact this
 | ret => exact this
theorem denF_det {E : Env} (hE : GDet E) (fuel : Nat) (fn : Func) (ms : List Mode) (args : List AV) (objs : List Obj) : Det fun R (κ : List AV × List Obj → Option R) => denF E loopN fuel fn ms args objs (two κ) :=
 Det.bind (denC_det hE fuel (bodyC fn) _) (h := fun (p : Ex × St) R (κ : List AV × List Obj → Option R) => topK E fn ms objs.length (two κ) p.1 p.2) fun p => topK_det E fn ms objs.length p
end Go.Den
