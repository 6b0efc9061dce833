/- printed by denfn.py -/
import Derived.Test.YtlmljpmohljefaaTh
import Derived.Test.YtlmljpmohljefaaS2
set_option linter.unusedVariables false
namespace Go.Proofs.Ytlmljpmohljefaa
open Go.Den
noncomputable def roomy (l : List Int) : Bool := decide (l.length < 1099511600000)
noncomputable def s_write : Den.Sum := ⟨[], fun args objs κ => match args, objs with
  | [], [] => κ [.ptr 0 0] [.box [.nilsl, .d .bool false]]
  | _, _ => none⟩
noncomputable def s_num : Den.Sum := ⟨[.raw, .raw, .raw], fun args objs κ => match args, objs with
  | [.ptr 0 0, .d (.int .i64) n, .d (.int .i64) v], [.box [.nilsl, .d .bool false]] => if fitsF n v = true then κ [.ptr 0 0] [.box [.row 1, .d .bool false], .row 5 (.int .u8) (be n.toNat v) false] else none
  | [.ptr 0 0, .d (.int .i64) n, .d (.int .i64) v], [.box [.row 1, .d .bool false], .row 5 (.int .u8) l false] => if fitsF n v = true ∧ roomy l = true then κ [.ptr 0 0] [.box [.row 2, .d .bool false], .gone, .row 5 (.int .u8) (l ++ be n.toNat v) false] else none
  | _, _ => none⟩
noncomputable def s_bytes : Den.Sum := ⟨[.raw], fun args objs κ => match args, objs with
  | [.ptr 0 0], [.box [.row 1, .d .bool false], .row 5 (.int .u8) l false] => if roomy l = true then κ [.d (.sl (.int .u8)) l, .d .bool true] [.box [.row 1, .d .bool false], .row 5 (.int .u8) l false] else none
  | _, _ => none⟩
noncomputable def s_put : Den.Sum := ⟨[.own 5 (.int .u8), .raw, .raw], fun args objs κ => match args, objs with
  | [.row 0, .d (.int .i64) n, .d (.int .i64) v], [.row 5 (.int .u8) l false] => if fitsF n v = true ∧ roomy l = true then κ [.row 1] [.gone, .row 5 (.int .u8) (l ++ be n.toNat v) false] else none
  | _, _ => none⟩
noncomputable def OWrite_E : Env := ⟨th, gam [], fun i => ⟨[], [], []⟩⟩
noncomputable def OWrite.k (rs : List AV) (os : List Den.Obj) : Option Bool :=
  match rs, os with
  | [.ptr 0 0], [.box [.nilsl, .d .bool r0]] => some r0
  | _, _ => none
noncomputable def OWrite.b (u : Unit) : Option Bool :=
  some (false)
noncomputable def OWrite.f (fuel : Nat) (u : Unit) : Option Bool := OWrite.b u
theorem OWrite.eq (fuel : Nat) (u : Unit) : (denF OWrite_E loopN fuel Try.f42 [.raw] [] [] OWrite.k) = OWrite.f fuel u := by
  kernel_rfl


noncomputable def NumN_E : Env := ⟨th, gam [(82, s_ofits)], fun i => if i = 7 then ⟨[0, 2, 7], [(1000, 5, (.int .u8))], [1001]⟩ else ⟨[], [], []⟩⟩
noncomputable def NumN.k (rs : List AV) (os : List Den.Obj) : Option (Bool × (List Int)) :=
  match rs, os with
  | [.ptr 0 0], [.box [.row 1, .d .bool r0], .row 5 (.int .u8) r1 false] => some (r0, r1)
  | _, _ => none
noncomputable def NumN.s7 (n : Int) (v : Int) (x0 : Int) (x1 : (List Int)) : St := ⟨[.ptr 0 0, .dead, .d (.int .i64) (v), .dead, .dead, .dead, .dead, .d (.int .i64) x0, .dead, .dead, .dead, .dead, .dead, .dead, .dead, .dead, .dead, .dead, .dead, .dead, .dead, .dead, .dead, .dead, .dead, .dead, .dead, .dead, .dead, .dead, .dead, .dead, .dead, .dead, .dead, .dead, .dead, .dead, .dead, .dead, .dead, .dead, .dead, .dead, .dead, .dead], ofL [(0, .box [.row 64, .d .bool (false)]), (64, .row 5 (.int .u8) x1 false)], 1⟩
noncomputable def NumN.b7 (n : Int) (v : Int) (A7 : Int → (List Int) → Option (Bool × (List Int))) (x0 : Int) (x1 : (List Int)) : Option (Bool × (List Int)) :=
  (if (decide (x0 ≥ (0 : Int))) then (if ((Go.IntKind.wrap .i64 ((8 : Int) * x0)) < (0 : Int)) then none else (if ((((List.length x1) + (List.length ((Go.IntKind.wrap .u8 (Int.fdiv v ((2 : Int) ^ (Min.min (Int.toNat (Go.IntKind.wrap .i64 ((8 : Int) * x0))) (Go.IntKind.bits .i64))))) :: []))) * (1 : Nat)) ≤ lim) then A7 (Go.IntKind.wrap .i64 (x0 - (1 : Int))) (x1 ++ ((Go.IntKind.wrap .u8 (Int.fdiv v ((2 : Int) ^ (Min.min (Int.toNat (Go.IntKind.wrap .i64 ((8 : Int) * x0))) (Go.IntKind.bits .i64))))) :: [])) else none)) else some (false, x1))
noncomputable def NumN.l7 (fuel : Nat) (n : Int) (v : Int) : Nat → Int → (List Int) → Option (Bool × (List Int))
  | 0, _, _ => none
  | k + 1, x0, x1 => NumN.b7 n v (NumN.l7 fuel n v k) x0 x1
noncomputable def NumN.b (n : Int) (v : Int) (E7 : Int → (List Int) → Option (Bool × (List Int))) : Option (Bool × (List Int)) :=
  (if (fitsF n v) then E7 (Go.IntKind.wrap .i64 (n - (1 : Int))) [] else none)
noncomputable def NumN.f (fuel : Nat) (n : Int) (v : Int) : Option (Bool × (List Int)) := NumN.b n v (NumN.l7 fuel n v fuel)
theorem NumN.l7_eq (fuel : Nat) (n : Int) (v : Int) : ∀ (k : Nat) (x0 : Int) (x1 : (List Int)), lp NumN_E fuel Try.f43 [.raw] 1 NumN.k 7 [] k (NumN.s7 n v x0 x1) = NumN.l7 fuel n v k x0 x1 := by
  intro k
  induction k with
  | zero => intro x0 x1; rfl
  | succ k ih =>
    intro x0 x1
    have h : lp NumN_E fuel Try.f43 [.raw] 1 NumN.k 7 [] (k + 1) (NumN.s7 n v x0 x1) = NumN.b7 n v (fun x0 x1 => lp NumN_E fuel Try.f43 [.raw] 1 NumN.k 7 [] k (NumN.s7 n v x0 x1)) x0 x1 := by kernel_rfl
    rw [h]
    have e7 : (fun x0 x1 => lp NumN_E fuel Try.f43 [.raw] 1 NumN.k 7 [] k (NumN.s7 n v x0 x1)) = NumN.l7 fuel n v k := (funext fun x0 => (funext fun x1 => ih x0 x1))
    rw [e7]
    rfl
theorem NumN.eq (fuel : Nat) (n : Int) (v : Int) : (denF NumN_E loopN fuel Try.f43 [.raw] [.ptr 0 0, .d (.int .i64) n, .d (.int .i64) v] [.box [.nilsl, .d .bool false]] NumN.k) = NumN.f fuel n v := by
  have h : (denF NumN_E loopN fuel Try.f43 [.raw] [.ptr 0 0, .d (.int .i64) n, .d (.int .i64) v] [.box [.nilsl, .d .bool false]] NumN.k) = NumN.b n v (fun x0 x1 => lp NumN_E fuel Try.f43 [.raw] 1 NumN.k 7 [] fuel (NumN.s7 n v x0 x1)) := by kernel_rfl
  rw [h]
  have e7 : (fun x0 x1 => lp NumN_E fuel Try.f43 [.raw] 1 NumN.k 7 [] fuel (NumN.s7 n v x0 x1)) = NumN.l7 fuel n v fuel := (funext fun x0 => (funext fun x1 => NumN.l7_eq fuel n v fuel x0 x1))
  rw [e7]
  rfl


noncomputable def NumR_E : Env := ⟨th, gam [(82, s_ofits)], fun i => if i = 7 then ⟨[0, 2, 7], [(1000, 5, (.int .u8))], [1001]⟩ else ⟨[], [], []⟩⟩
noncomputable def NumR.k (rs : List AV) (os : List Den.Obj) : Option (Bool × (List Int)) :=
  match rs, os with
  | [.ptr 0 0], [.box [.row 2, .d .bool r0], .gone, .row 5 (.int .u8) r1 false] => some (r0, r1)
  | _, _ => none
noncomputable def NumR.s7 (n : Int) (v : Int) (l : List Int) (x0 : Int) (x1 : (List Int)) : St := ⟨[.ptr 0 0, .dead, .d (.int .i64) (v), .dead, .dead, .dead, .dead, .d (.int .i64) x0, .dead, .dead, .dead, .dead, .dead, .dead, .dead, .dead, .dead, .dead, .dead, .dead, .dead, .dead, .dead, .dead, .dead, .dead, .dead, .dead, .dead, .dead, .dead, .dead, .dead, .dead, .dead, .dead, .dead, .dead, .dead, .dead, .dead, .dead, .dead, .dead, .dead, .dead], ofL [(0, .box [.row 64, .d .bool (false)]), (1, .gone), (64, .row 5 (.int .u8) x1 false)], 2⟩
noncomputable def NumR.b7 (n : Int) (v : Int) (l : List Int) (A7 : Int → (List Int) → Option (Bool × (List Int))) (x0 : Int) (x1 : (List Int)) : Option (Bool × (List Int)) :=
  (if (decide (x0 ≥ (0 : Int))) then (if ((Go.IntKind.wrap .i64 ((8 : Int) * x0)) < (0 : Int)) then none else (if ((((List.length x1) + (List.length ((Go.IntKind.wrap .u8 (Int.fdiv v ((2 : Int) ^ (Min.min (Int.toNat (Go.IntKind.wrap .i64 ((8 : Int) * x0))) (Go.IntKind.bits .i64))))) :: []))) * (1 : Nat)) ≤ lim) then A7 (Go.IntKind.wrap .i64 (x0 - (1 : Int))) (x1 ++ ((Go.IntKind.wrap .u8 (Int.fdiv v ((2 : Int) ^ (Min.min (Int.toNat (Go.IntKind.wrap .i64 ((8 : Int) * x0))) (Go.IntKind.bits .i64))))) :: [])) else none)) else some (false, x1))
noncomputable def NumR.l7 (fuel : Nat) (n : Int) (v : Int) (l : List Int) : Nat → Int → (List Int) → Option (Bool × (List Int))
  | 0, _, _ => none
  | k + 1, x0, x1 => NumR.b7 n v l (NumR.l7 fuel n v l k) x0 x1
noncomputable def NumR.b (n : Int) (v : Int) (l : List Int) (E7 : Int → (List Int) → Option (Bool × (List Int))) : Option (Bool × (List Int)) :=
  (if (fitsF n v) then E7 (Go.IntKind.wrap .i64 (n - (1 : Int))) l else none)
noncomputable def NumR.f (fuel : Nat) (n : Int) (v : Int) (l : List Int) : Option (Bool × (List Int)) := NumR.b n v l (NumR.l7 fuel n v l fuel)
theorem NumR.l7_eq (fuel : Nat) (n : Int) (v : Int) (l : List Int) : ∀ (k : Nat) (x0 : Int) (x1 : (List Int)), lp NumR_E fuel Try.f43 [.raw] 2 NumR.k 7 [] k (NumR.s7 n v l x0 x1) = NumR.l7 fuel n v l k x0 x1 := by
  intro k
  induction k with
  | zero => intro x0 x1; rfl
  | succ k ih =>
    intro x0 x1
    have h : lp NumR_E fuel Try.f43 [.raw] 2 NumR.k 7 [] (k + 1) (NumR.s7 n v l x0 x1) = NumR.b7 n v l (fun x0 x1 => lp NumR_E fuel Try.f43 [.raw] 2 NumR.k 7 [] k (NumR.s7 n v l x0 x1)) x0 x1 := by kernel_rfl
    rw [h]
    have e7 : (fun x0 x1 => lp NumR_E fuel Try.f43 [.raw] 2 NumR.k 7 [] k (NumR.s7 n v l x0 x1)) = NumR.l7 fuel n v l k := (funext fun x0 => (funext fun x1 => ih x0 x1))
    rw [e7]
    rfl
theorem NumR.eq (fuel : Nat) (n : Int) (v : Int) (l : List Int) : (denF NumR_E loopN fuel Try.f43 [.raw] [.ptr 0 0, .d (.int .i64) n, .d (.int .i64) v] [.box [.row 1, .d .bool false], .row 5 (.int .u8) l false] NumR.k) = NumR.f fuel n v l := by
  have h : (denF NumR_E loopN fuel Try.f43 [.raw] [.ptr 0 0, .d (.int .i64) n, .d (.int .i64) v] [.box [.row 1, .d .bool false], .row 5 (.int .u8) l false] NumR.k) = NumR.b n v l (fun x0 x1 => lp NumR_E fuel Try.f43 [.raw] 2 NumR.k 7 [] fuel (NumR.s7 n v l x0 x1)) := by kernel_rfl
  rw [h]
  have e7 : (fun x0 x1 => lp NumR_E fuel Try.f43 [.raw] 2 NumR.k 7 [] fuel (NumR.s7 n v l x0 x1)) = NumR.l7 fuel n v l fuel := (funext fun x0 => (funext fun x1 => NumR.l7_eq fuel n v l fuel x0 x1))
  rw [e7]
  rfl


noncomputable def OBytes_E : Env := ⟨th, gam [], fun i => ⟨[], [], []⟩⟩
noncomputable def OBytes.k (rs : List AV) (os : List Den.Obj) : Option ((List Int) × Bool × Bool × (List Int)) :=
  match rs, os with
  | [.d (.sl (.int .u8)) r0, .d .bool r1], [.box [.row 1, .d .bool r2], .row 5 (.int .u8) r3 false] => some (r0, r1, r2, r3)
  | _, _ => none
noncomputable def OBytes.b (l : List Int) : Option ((List Int) × Bool × Bool × (List Int)) :=
  (if (((0 : Int) ≤ ((((List.length l)) : Nat) : Int)) ∧ ((((((List.length l)) : Nat) : Int) ≤ ((((List.length l)) : Nat) : Int)) ∧ (((((((List.length l)) : Nat) : Int) * ((((1 : Nat)) : Nat) : Int)) ≤ (1099511627776 : Int)) ∧ (((((List.length l)) : Nat) : Int) ≤ (1099511627776 : Int))))) then (if ((false = false) ∧ ((List.length l) ≤ (List.length (List.replicate (Int.toNat ((((List.length l)) : Nat) : Int)) (zeroI (Go.Den.Ty.int .u8)))))) then some ((l ++ (List.drop (List.length l) (List.replicate (Int.toNat ((((List.length l)) : Nat) : Int)) (zeroI (Go.Den.Ty.int .u8))))), true, false, l) else none) else none)
noncomputable def OBytes.f (fuel : Nat) (l : List Int) : Option ((List Int) × Bool × Bool × (List Int)) := OBytes.b l
theorem OBytes.eq (fuel : Nat) (l : List Int) : (denF OBytes_E loopN fuel Try.f46 [.dat (.sl (.int .u8)) false, .raw] [.ptr 0 0] [.box [.row 1, .d .bool false], .row 5 (.int .u8) l false] OBytes.k) = OBytes.f fuel l := by
  kernel_rfl


noncomputable def Put11_E : Env := ⟨th, gam [], fun i => if i = 3 then ⟨[0, 2, 7, 8], [], []⟩ else ⟨[], [], []⟩⟩
noncomputable def Put11.k (rs : List AV) (os : List Den.Obj) : Option (List Int) :=
  match rs, os with
  | [.row 1], [.gone, .row 5 (.int .u8) r0 false] => some r0
  | _, _ => none
noncomputable def Put11.s3 (n : Int) (v : Int) (l : List Int) (x0 : Int) (x1 : Int) (x2 : (List Int)) : St := ⟨[.row 0, .dead, .d (.int .i64) x0, .dead, .dead, .dead, .dead, .row 64, .d (.int .i64) x1, .dead, .dead, .dead, .dead, .dead, .dead, .dead, .dead, .dead, .dead, .dead, .dead, .dead, .dead, .dead, .dead, .dead, .dead, .dead], ofL [(0, .row 5 (.int .u8) (l) false), (64, .row 5 (.int .u8) x2 false)], 1⟩
noncomputable def Put11.b3 (n : Int) (v : Int) (l : List Int) (A3 : Int → Int → (List Int) → Option (List Int)) (x0 : Int) (x1 : Int) (x2 : (List Int)) : Option (List Int) :=
  (if (decide (x1 ≥ (0 : Int))) then (match (idx x2 x1) with | none => none | some y3 => (match (idx x2 x1) with | none => none | some y4 => A3 (Go.IntKind.wrap .i64 (Int.tdiv x0 (256 : Int))) (Go.IntKind.wrap .i64 (x1 - (1 : Int))) (List.set x2 (Int.toNat x1) (Go.IntKind.wrap .u8 (Int.tmod x0 (256 : Int)))))) else (if ((((List.length l) + (List.length x2)) * (1 : Nat)) ≤ lim) then some ((l ++ x2)) else none))
noncomputable def Put11.l3 (fuel : Nat) (n : Int) (v : Int) (l : List Int) : Nat → Int → Int → (List Int) → Option (List Int)
  | 0, _, _, _ => none
  | k + 1, x0, x1, x2 => Put11.b3 n v l (Put11.l3 fuel n v l k) x0 x1 x2
noncomputable def Put11.b (n : Int) (v : Int) (l : List Int) (E3 : Int → Int → (List Int) → Option (List Int)) : Option (List Int) :=
  (if (((0 : Int) ≤ n) ∧ ((n ≤ n) ∧ (((n * ((((1 : Nat)) : Nat) : Int)) ≤ (1099511627776 : Int)) ∧ (n ≤ (1099511627776 : Int))))) then E3 v (Go.IntKind.wrap .i64 (n - (1 : Int))) (List.replicate (Int.toNat n) (zeroI (Go.Den.Ty.int .u8))) else none)
noncomputable def Put11.f (fuel : Nat) (n : Int) (v : Int) (l : List Int) : Option (List Int) := Put11.b n v l (Put11.l3 fuel n v l fuel)
theorem Put11.l3_eq (fuel : Nat) (n : Int) (v : Int) (l : List Int) : ∀ (k : Nat) (x0 : Int) (x1 : Int) (x2 : (List Int)), lp Put11_E fuel Try.f53 [.own 5 (.int .u8)] 1 Put11.k 3 [] k (Put11.s3 n v l x0 x1 x2) = Put11.l3 fuel n v l k x0 x1 x2 := by
  intro k
  induction k with
  | zero => intro x0 x1 x2; rfl
  | succ k ih =>
    intro x0 x1 x2
    have h : lp Put11_E fuel Try.f53 [.own 5 (.int .u8)] 1 Put11.k 3 [] (k + 1) (Put11.s3 n v l x0 x1 x2) = Put11.b3 n v l (fun x0 x1 x2 => lp Put11_E fuel Try.f53 [.own 5 (.int .u8)] 1 Put11.k 3 [] k (Put11.s3 n v l x0 x1 x2)) x0 x1 x2 := by kernel_rfl
    rw [h]
    have e3 : (fun x0 x1 x2 => lp Put11_E fuel Try.f53 [.own 5 (.int .u8)] 1 Put11.k 3 [] k (Put11.s3 n v l x0 x1 x2)) = Put11.l3 fuel n v l k := (funext fun x0 => (funext fun x1 => (funext fun x2 => ih x0 x1 x2)))
    rw [e3]
    rfl
theorem Put11.eq (fuel : Nat) (n : Int) (v : Int) (l : List Int) : (denF Put11_E loopN fuel Try.f53 [.own 5 (.int .u8)] [.row 0, .d (.int .i64) n, .d (.int .i64) v] [.row 5 (.int .u8) l false] Put11.k) = Put11.f fuel n v l := by
  have h : (denF Put11_E loopN fuel Try.f53 [.own 5 (.int .u8)] [.row 0, .d (.int .i64) n, .d (.int .i64) v] [.row 5 (.int .u8) l false] Put11.k) = Put11.b n v l (fun x0 x1 x2 => lp Put11_E fuel Try.f53 [.own 5 (.int .u8)] 1 Put11.k 3 [] fuel (Put11.s3 n v l x0 x1 x2)) := by kernel_rfl
  rw [h]
  have e3 : (fun x0 x1 x2 => lp Put11_E fuel Try.f53 [.own 5 (.int .u8)] 1 Put11.k 3 [] fuel (Put11.s3 n v l x0 x1 x2)) = Put11.l3 fuel n v l fuel := (funext fun x0 => (funext fun x1 => (funext fun x2 => Put11.l3_eq fuel n v l fuel x0 x1 x2)))
  rw [e3]
  rfl


end Go.Proofs.Ytlmljpmohljefaa
