/- printed by denfn.py -/
import Derived.Test.YtlmljpmohljefaaTh
import Derived.Test.YtlmljpmohljefaaS4
set_option linter.unusedVariables false
namespace Go.Proofs.Ytlmljpmohljefaa
open Go.Den
noncomputable def allF : List (Int × Int) := [(1, 1), (1, 2), (1, 3), (2, 2), (2, 3), (3, 3)]
noncomputable def ofGo : List (Int × Int) → Int → Int × Int × Bool
  | [], c => (0, 0, false)
  | s :: l, c => if (codeF s.1 s.2 == c) = true then (s.1, s.2, true) else ofGo l c
noncomputable def inB (l : List Int) : Bool := roomy l && l.all fun c => decide (0 ≤ c) && decide (c ≤ 255)
noncomputable def atOk (l : List Int) (a : Int) : Bool := inB l && (decide (0 ≤ a) && decide (a ≤ (l.length : Int)))
noncomputable def seg (l : List Int) (a n : Int) : List Int := (l.take (a + n).toNat).drop a.toNat
/-- the bytes that come next, whether they are there, and the place behind them -/
noncomputable def stepF (l : List Int) (n a : Int) (bad : Bool) : List Int × Bool × Int × Bool :=
  if bad then ([], false, a, true) else if decide (n < 0) || decide (n > (l.length : Int) - a) then ([], false, a, true) else (seg l a n, true, a + n, false)
noncomputable def numB (p : List Int) : Int := p.foldl (fun v c => v * 256 + c) 0
noncomputable def readF (l : List Int) (n a : Int) (bad : Bool) : Int × Int × Bool :=
  let n' := if decide (n < 1) || decide (n > 7) then -1 else n
  ((if (stepF l n' a bad).2.1 then numB (stepF l n' a bad).1 else 0), (stepF l n' a bad).2.2.1, (stepF l n' a bad).2.2.2)
noncomputable def leftF (l : List Int) (a : Int) (bad : Bool) : Int := if bad then 0 else (l.length : Int) - a
noncomputable def oneF (l : List Int) (a : Int) (bad : Bool) : (Int × Int × Int × (Int × Int) × Bool × List (Int × List Int)) × Int × Bool :=
  let r1 := readF l 2 a bad
  let r2 := readF l 2 r1.2.1 r1.2.2
  let r3 := readF l 1 r2.2.1 r2.2.2
  (((if decide (r3.1 > 127) then -1 else r1.1), r2.1, r3.1 % 4, (r3.1 / 4 % 4, r3.1 / 16 % 4), r3.1 / 64 % 2 == 1, []), r3.2.1, r3.2.2)
noncomputable def s_all : Den.Sum := ⟨[], fun args objs κ => match args, objs with
  | [], [] => κ [.row 0] [.row 23 (.pair (.int .i64) (.int .i64)) allF false]
  | _, _ => none⟩
noncomputable def s_sof : Den.Sum := ⟨[.raw], fun args objs κ => match args, objs with
  | [.d (.int .i64) c], [] => κ [.agg [.d (.int .i64) (ofGo allF c).1, .d (.int .i64) (ofGo allF c).2.1], .d .bool (ofGo allF c).2.2] []
  | _, _ => none⟩
noncomputable def s_read : Den.Sum := ⟨[.dat (.sl (.int .u8)) false], fun args objs κ => match args, objs with
  | [.d (.sl (.int .u8)) l], [] => if inB l = true then κ [.ptr 0 0] [.box [.d (.sl (.int .u8)) l, .d (.int .i64) 0, .d .bool false]] else none
  | _, _ => none⟩
noncomputable def s_step : Den.Sum := ⟨[.raw, .raw], fun args objs κ => match args, objs with
  | [.ptr 0 0, .d (.int .i64) n], [.box [.d (.sl (.int .u8)) l, .d (.int .i64) a, .d .bool bad]] => if atOk l a = true then κ [.d (.sl (.int .u8)) (stepF l n a bad).1, .d .bool (stepF l n a bad).2.1] [.box [.d (.sl (.int .u8)) l, .d (.int .i64) (stepF l n a bad).2.2.1, .d .bool (stepF l n a bad).2.2.2]] else none
  | _, _ => none⟩
noncomputable def s_rnum : Den.Sum := ⟨[.raw, .raw], fun args objs κ => match args, objs with
  | [.ptr 0 0, .d (.int .i64) n], [.box [.d (.sl (.int .u8)) l, .d (.int .i64) a, .d .bool bad]] => if atOk l a = true then κ [.d (.int .i64) (readF l n a bad).1] [.box [.d (.sl (.int .u8)) l, .d (.int .i64) (readF l n a bad).2.1, .d .bool (readF l n a bad).2.2]] else none
  | _, _ => none⟩
noncomputable def s_bad : Den.Sum := ⟨[.raw], fun args objs κ => match args, objs with
  | [.ptr 0 0], [.box [.d (.sl (.int .u8)) l, .d (.int .i64) a, .d .bool bad]] => κ [.d .bool bad] [.box [.d (.sl (.int .u8)) l, .d (.int .i64) a, .d .bool bad]]
  | _, _ => none⟩
noncomputable def s_left : Den.Sum := ⟨[.raw], fun args objs κ => match args, objs with
  | [.ptr 0 0], [.box [.d (.sl (.int .u8)) l, .d (.int .i64) a, .d .bool bad]] => if atOk l a = true then κ [.d (.int .i64) (leftF l a bad)] [.box [.d (.sl (.int .u8)) l, .d (.int .i64) a, .d .bool bad]] else none
  | _, _ => none⟩
noncomputable def s_done : Den.Sum := ⟨[.raw], fun args objs κ => match args, objs with
  | [.ptr 0 0], [.box [.d (.sl (.int .u8)) l, .d (.int .i64) a, .d .bool bad]] => if atOk l a = true then κ [.d .bool (!bad && (leftF l a bad == 0))] [.box [.d (.sl (.int .u8)) l, .d (.int .i64) a, .d .bool bad]] else none
  | _, _ => none⟩
noncomputable def s_one : Den.Sum := ⟨[.raw], fun args objs κ => match args, objs with
  | [.fn (.func 55) [.ptr 0 0] []], [.box [.d (.sl (.int .u8)) l, .d (.int .i64) a, .d .bool bad]] => if atOk l a = true then κ [.agg [.d (.int .i64) (oneF l a bad).1.1, .d (.int .i64) (oneF l a bad).1.2.1, .d (.int .i64) (oneF l a bad).1.2.2.1, .d (.int .i64) (oneF l a bad).1.2.2.2.1.1, .d (.int .i64) (oneF l a bad).1.2.2.2.1.2, .d .bool (oneF l a bad).1.2.2.2.2.1, .d (.sl (.pair (.int .i64) (.sl (.int .u8)))) []]] [.box [.d (.sl (.int .u8)) l, .d (.int .i64) (oneF l a bad).2.1, .d .bool (oneF l a bad).2.2]] else none
  | _, _ => none⟩
noncomputable def SAll_E : Env := ⟨th, gam [], fun i => if i = 3 then ⟨[1, 2], [(1, 23, (.pair (.int .i64) (.int .i64)))], []⟩ else if i = 6 then ⟨[1, 2, 3], [], []⟩ else ⟨[], [], []⟩⟩
noncomputable def SAll.k (rs : List AV) (os : List Den.Obj) : Option (List (Int × Int)) :=
  match rs, os with
  | [.row 0], [.row 23 (.pair (.int .i64) (.int .i64)) r0 false] => some r0
  | _, _ => none
noncomputable def SAll.s6 (u : Unit) (x2 : Int) (x3 : Int) (x4 : (List (Int × Int))) : St := ⟨[.dead, .row 64, .d (.int .i64) x2, .d (.int .i64) x3, .dead, .dead, .dead, .dead, .dead, .dead, .dead, .dead, .dead, .dead, .dead, .dead, .dead, .dead, .dead, .dead], ofL [(64, .row 23 (.pair (.int .i64) (.int .i64)) x4 false)], 0⟩
noncomputable def SAll.b6 (u : Unit) (A3 : Int → (List (Int × Int)) → Option (List (Int × Int))) (A6 : Int → Int → (List (Int × Int)) → Option (List (Int × Int))) (x2 : Int) (x3 : Int) (x4 : (List (Int × Int))) : Option (List (Int × Int)) :=
  (if (decide (x3 ≤ (3 : Int))) then (if ((((List.length x4) + (List.length ((x2, x3) :: []))) * (16 : Nat)) ≤ lim) then A6 x2 (Go.IntKind.wrap .i64 (x3 + (1 : Int))) (x4 ++ ((x2, x3) :: [])) else none) else A3 (Go.IntKind.wrap .i64 (x2 + (1 : Int))) x4)
noncomputable def SAll.l6 (fuel : Nat) (u : Unit) (A3 : Int → (List (Int × Int)) → Option (List (Int × Int))) : Nat → Int → Int → (List (Int × Int)) → Option (List (Int × Int))
  | 0, _, _, _ => none
  | k + 1, x2, x3, x4 => SAll.b6 u A3 (SAll.l6 fuel u A3 k) x2 x3 x4
noncomputable def SAll.s3 (u : Unit) (x0 : Int) (x1 : (List (Int × Int))) : St := ⟨[.dead, .row 64, .d (.int .i64) x0, .dead, .dead, .dead, .dead, .dead, .dead, .dead, .dead, .dead, .dead, .dead, .dead, .dead, .dead, .dead, .dead, .dead], ofL [(64, .row 23 (.pair (.int .i64) (.int .i64)) x1 false)], 0⟩
noncomputable def SAll.b3 (u : Unit) (A3 : Int → (List (Int × Int)) → Option (List (Int × Int))) (E6 : Int → Int → (List (Int × Int)) → Option (List (Int × Int))) (x0 : Int) (x1 : (List (Int × Int))) : Option (List (Int × Int)) :=
  (if (decide (x0 ≤ (3 : Int))) then E6 x0 x0 x1 else some (x1))
noncomputable def SAll.l3 (fuel : Nat) (u : Unit) : Nat → Int → (List (Int × Int)) → Option (List (Int × Int))
  | 0, _, _ => none
  | k + 1, x0, x1 => SAll.b3 u (SAll.l3 fuel u k) (SAll.l6 fuel u (SAll.l3 fuel u k) fuel) x0 x1
noncomputable def SAll.b (u : Unit) (E3 : Int → (List (Int × Int)) → Option (List (Int × Int))) : Option (List (Int × Int)) :=
  E3 (1 : Int) []
noncomputable def SAll.f (fuel : Nat) (u : Unit) : Option (List (Int × Int)) := SAll.b u (SAll.l3 fuel u fuel)
theorem SAll.l6_eq (fuel : Nat) (u : Unit) (k3 : Nat) : ∀ (k : Nat) (x2 : Int) (x3 : Int) (x4 : (List (Int × Int))), lp SAll_E fuel Try.f88 [.own 23 (.pair (.int .i64) (.int .i64))] 0 SAll.k 6 [k3] k (SAll.s6 u x2 x3 x4) = SAll.l6 fuel u (fun x0 x1 => lp SAll_E fuel Try.f88 [.own 23 (.pair (.int .i64) (.int .i64))] 0 SAll.k 3 [] k3 (SAll.s3 u x0 x1)) k x2 x3 x4 := by
  intro k
  induction k with
  | zero => intro x2 x3 x4; rfl
  | succ k ih =>
    intro x2 x3 x4
    have h : lp SAll_E fuel Try.f88 [.own 23 (.pair (.int .i64) (.int .i64))] 0 SAll.k 6 [k3] (k + 1) (SAll.s6 u x2 x3 x4) = SAll.b6 u (fun x0 x1 => lp SAll_E fuel Try.f88 [.own 23 (.pair (.int .i64) (.int .i64))] 0 SAll.k 3 [] k3 (SAll.s3 u x0 x1)) (fun x2 x3 x4 => lp SAll_E fuel Try.f88 [.own 23 (.pair (.int .i64) (.int .i64))] 0 SAll.k 6 [k3] k (SAll.s6 u x2 x3 x4)) x2 x3 x4 := by kernel_rfl
    rw [h]
    have e6 : (fun x2 x3 x4 => lp SAll_E fuel Try.f88 [.own 23 (.pair (.int .i64) (.int .i64))] 0 SAll.k 6 [k3] k (SAll.s6 u x2 x3 x4)) = SAll.l6 fuel u (fun x0 x1 => lp SAll_E fuel Try.f88 [.own 23 (.pair (.int .i64) (.int .i64))] 0 SAll.k 3 [] k3 (SAll.s3 u x0 x1)) k := (funext fun x2 => (funext fun x3 => (funext fun x4 => ih x2 x3 x4)))
    rw [e6]
    rfl
theorem SAll.l3_eq (fuel : Nat) (u : Unit) : ∀ (k : Nat) (x0 : Int) (x1 : (List (Int × Int))), lp SAll_E fuel Try.f88 [.own 23 (.pair (.int .i64) (.int .i64))] 0 SAll.k 3 [] k (SAll.s3 u x0 x1) = SAll.l3 fuel u k x0 x1 := by
  intro k
  induction k with
  | zero => intro x0 x1; rfl
  | succ k ih =>
    intro x0 x1
    have h : lp SAll_E fuel Try.f88 [.own 23 (.pair (.int .i64) (.int .i64))] 0 SAll.k 3 [] (k + 1) (SAll.s3 u x0 x1) = SAll.b3 u (fun x0 x1 => lp SAll_E fuel Try.f88 [.own 23 (.pair (.int .i64) (.int .i64))] 0 SAll.k 3 [] k (SAll.s3 u x0 x1)) (fun x2 x3 x4 => lp SAll_E fuel Try.f88 [.own 23 (.pair (.int .i64) (.int .i64))] 0 SAll.k 6 [k] fuel (SAll.s6 u x2 x3 x4)) x0 x1 := by kernel_rfl
    rw [h]
    have e3 : (fun x0 x1 => lp SAll_E fuel Try.f88 [.own 23 (.pair (.int .i64) (.int .i64))] 0 SAll.k 3 [] k (SAll.s3 u x0 x1)) = SAll.l3 fuel u k := (funext fun x0 => (funext fun x1 => ih x0 x1))
    rw [e3]
    have e6 : (fun x2 x3 x4 => lp SAll_E fuel Try.f88 [.own 23 (.pair (.int .i64) (.int .i64))] 0 SAll.k 6 [k] fuel (SAll.s6 u x2 x3 x4)) = SAll.l6 fuel u (fun x0 x1 => lp SAll_E fuel Try.f88 [.own 23 (.pair (.int .i64) (.int .i64))] 0 SAll.k 3 [] k (SAll.s3 u x0 x1)) fuel := (funext fun x2 => (funext fun x3 => (funext fun x4 => SAll.l6_eq fuel u k fuel x2 x3 x4)))
    rw [e6]
    rw [e3]
    rfl
theorem SAll.eq (fuel : Nat) (u : Unit) : (denF SAll_E loopN fuel Try.f88 [.own 23 (.pair (.int .i64) (.int .i64))] [] [] SAll.k) = SAll.f fuel u := by
  have h : (denF SAll_E loopN fuel Try.f88 [.own 23 (.pair (.int .i64) (.int .i64))] [] [] SAll.k) = SAll.b u (fun x0 x1 => lp SAll_E fuel Try.f88 [.own 23 (.pair (.int .i64) (.int .i64))] 0 SAll.k 3 [] fuel (SAll.s3 u x0 x1)) := by kernel_rfl
  rw [h]
  have e3 : (fun x0 x1 => lp SAll_E fuel Try.f88 [.own 23 (.pair (.int .i64) (.int .i64))] 0 SAll.k 3 [] fuel (SAll.s3 u x0 x1)) = SAll.l3 fuel u fuel := (funext fun x0 => (funext fun x1 => SAll.l3_eq fuel u fuel x0 x1))
  rw [e3]
  rfl


noncomputable def SOf_E : Env := ⟨th, gam [(88, s_all), (44, s_code)], fun i => if i = 2 then ⟨[0, 2, 6, 7, 8], [], []⟩ else ⟨[], [], []⟩⟩
noncomputable def SOf.k (rs : List AV) (os : List Den.Obj) : Option (Int × Int × Bool) :=
  match rs, os with
  | [.agg [.d (.int .i64) r0, .d (.int .i64) r1], .d .bool r2], [] => some (r0, r1, r2)
  | _, _ => none
noncomputable def SOf.s2 (c : Int) (x0 : Int) (x1 : Int) : St := ⟨[.d (.int .i64) (c), .dead, .ptr 64 0, .dead, .dead, .dead, .row 65, .d (.int .i64) x0, .d (.int .i64) x1, .dead, .dead, .dead, .dead, .dead, .dead, .dead, .dead, .dead, .dead], ofL [(64, .box [.d (.int .i64) (0), .d (.int .i64) (0)]), (65, .row 23 (.pair (.int .i64) (.int .i64)) (allF) false)], 0⟩
noncomputable def SOf.b2 (c : Int) (A2 : Int → Int → Option (Int × Int × Bool)) (x0 : Int) (x1 : Int) : Option (Int × Int × Bool) :=
  (if (decide (x1 < x0)) then (match (idx allF x1) with | none => none | some y2 => (match (idx allF x1) with | none => none | some y3 => (if ((codeF y3.1 y3.2) == c) then some (y3.1, y3.2, true) else A2 x0 (Go.IntKind.wrap .i64 (x1 + (1 : Int)))))) else some (0, 0, false))
noncomputable def SOf.l2 (fuel : Nat) (c : Int) : Nat → Int → Int → Option (Int × Int × Bool)
  | 0, _, _ => none
  | k + 1, x0, x1 => SOf.b2 c (SOf.l2 fuel c k) x0 x1
noncomputable def SOf.b (c : Int) (E2 : Int → Int → Option (Int × Int × Bool)) : Option (Int × Int × Bool) :=
  E2 ((((List.length allF)) : Nat) : Int) (0 : Int)
noncomputable def SOf.f (fuel : Nat) (c : Int) : Option (Int × Int × Bool) := SOf.b c (SOf.l2 fuel c fuel)
theorem SOf.l2_eq (fuel : Nat) (c : Int) : ∀ (k : Nat) (x0 : Int) (x1 : Int), lp SOf_E fuel Try.f56 [.dat (.pair (.int .i64) (.int .i64)) true, .raw] 0 SOf.k 2 [] k (SOf.s2 c x0 x1) = SOf.l2 fuel c k x0 x1 := by
  intro k
  induction k with
  | zero => intro x0 x1; rfl
  | succ k ih =>
    intro x0 x1
    have h : lp SOf_E fuel Try.f56 [.dat (.pair (.int .i64) (.int .i64)) true, .raw] 0 SOf.k 2 [] (k + 1) (SOf.s2 c x0 x1) = SOf.b2 c (fun x0 x1 => lp SOf_E fuel Try.f56 [.dat (.pair (.int .i64) (.int .i64)) true, .raw] 0 SOf.k 2 [] k (SOf.s2 c x0 x1)) x0 x1 := by kernel_rfl
    rw [h]
    have e2 : (fun x0 x1 => lp SOf_E fuel Try.f56 [.dat (.pair (.int .i64) (.int .i64)) true, .raw] 0 SOf.k 2 [] k (SOf.s2 c x0 x1)) = SOf.l2 fuel c k := (funext fun x0 => (funext fun x1 => ih x0 x1))
    rw [e2]
    rfl
theorem SOf.eq (fuel : Nat) (c : Int) : (denF SOf_E loopN fuel Try.f56 [.dat (.pair (.int .i64) (.int .i64)) true, .raw] [.d (.int .i64) c] [] SOf.k) = SOf.f fuel c := by
  have h : (denF SOf_E loopN fuel Try.f56 [.dat (.pair (.int .i64) (.int .i64)) true, .raw] [.d (.int .i64) c] [] SOf.k) = SOf.b c (fun x0 x1 => lp SOf_E fuel Try.f56 [.dat (.pair (.int .i64) (.int .i64)) true, .raw] 0 SOf.k 2 [] fuel (SOf.s2 c x0 x1)) := by kernel_rfl
  rw [h]
  have e2 : (fun x0 x1 => lp SOf_E fuel Try.f56 [.dat (.pair (.int .i64) (.int .i64)) true, .raw] 0 SOf.k 2 [] fuel (SOf.s2 c x0 x1)) = SOf.l2 fuel c fuel := (funext fun x0 => (funext fun x1 => SOf.l2_eq fuel c fuel x0 x1))
  rw [e2]
  rfl


noncomputable def ORead_E : Env := ⟨th, gam [], fun i => ⟨[], [], []⟩⟩
noncomputable def ORead.k (rs : List AV) (os : List Den.Obj) : Option ((List Int) × Int × Bool) :=
  match rs, os with
  | [.ptr 0 0], [.box [.d (.sl (.int .u8)) r0, .d (.int .i64) r1, .d .bool r2]] => some (r0, r1, r2)
  | _, _ => none
noncomputable def ORead.b (l : List Int) : Option ((List Int) × Int × Bool) :=
  (if (((0 : Int) ≤ ((((List.length l)) : Nat) : Int)) ∧ ((((((List.length l)) : Nat) : Int) ≤ ((((List.length l)) : Nat) : Int)) ∧ (((((((List.length l)) : Nat) : Int) * ((((1 : Nat)) : Nat) : Int)) ≤ (1099511627776 : Int)) ∧ (((((List.length l)) : Nat) : Int) ≤ (1099511627776 : Int))))) then (if ((false = false) ∧ ((List.length l) ≤ (List.length (List.replicate (Int.toNat ((((List.length l)) : Nat) : Int)) (zeroI (Go.Den.Ty.int .u8)))))) then some ((l ++ (List.drop (List.length l) (List.replicate (Int.toNat ((((List.length l)) : Nat) : Int)) (zeroI (Go.Den.Ty.int .u8))))), 0, false) else none) else none)
noncomputable def ORead.f (fuel : Nat) (l : List Int) : Option ((List Int) × Int × Bool) := ORead.b l
theorem ORead.eq (fuel : Nat) (l : List Int) : (denF ORead_E loopN fuel Try.f54 [.fz] [.d (.sl (.int .u8)) l] [] ORead.k) = ORead.f fuel l := by
  kernel_rfl


noncomputable def OStep_E : Env := ⟨th, gam [], fun i => ⟨[], [], []⟩⟩
noncomputable def OStep.k (rs : List AV) (os : List Den.Obj) : Option ((List Int) × Bool × (List Int) × Int × Bool) :=
  match rs, os with
  | [.d (.sl (.int .u8)) r0, .d .bool r1], [.box [.d (.sl (.int .u8)) r2, .d (.int .i64) r3, .d .bool r4]] => some (r0, r1, r2, r3, r4)
  | _, _ => none
noncomputable def OStep.b (n : Int) (l : List Int) (a : Int) (bad : Bool) : Option ((List Int) × Bool × (List Int) × Int × Bool) :=
  (if bad then some ([], false, l, a, bad) else (if (decide (n < (0 : Int))) then some ([], false, l, a, true) else (if (decide (n > (Go.IntKind.wrap .i64 (((((List.length l)) : Nat) : Int) - a)))) then some ([], false, l, a, true) else (if (((0 : Int) ≤ a) ∧ ((a ≤ (Go.IntKind.wrap .i64 (a + n))) ∧ ((Go.IntKind.wrap .i64 (a + n)) ≤ ((((List.length l)) : Nat) : Int)))) then some ((List.drop (Int.toNat a) (List.take (Int.toNat (Go.IntKind.wrap .i64 (a + n))) l)), true, l, (Go.IntKind.wrap .i64 (a + n)), bad) else none))))
noncomputable def OStep.f (fuel : Nat) (n : Int) (l : List Int) (a : Int) (bad : Bool) : Option ((List Int) × Bool × (List Int) × Int × Bool) := OStep.b n l a bad
theorem OStep.eq (fuel : Nat) (n : Int) (l : List Int) (a : Int) (bad : Bool) : (denF OStep_E loopN fuel Try.f87 [.dat (.sl (.int .u8)) false, .raw] [.ptr 0 0, .d (.int .i64) n] [.box [.d (.sl (.int .u8)) l, .d (.int .i64) a, .d .bool bad]] OStep.k) = OStep.f fuel n l a bad := by
  kernel_rfl


noncomputable def RNum_E : Env := ⟨th, gam [(87, s_step)], fun i => if i = 8 then ⟨[7, 24, 25, 26], [], []⟩ else ⟨[], [], []⟩⟩
noncomputable def RNum.k (rs : List AV) (os : List Den.Obj) : Option (Int × (List Int) × Int × Bool) :=
  match rs, os with
  | [.d (.int .i64) r0], [.box [.d (.sl (.int .u8)) r1, .d (.int .i64) r2, .d .bool r3]] => some (r0, r1, r2, r3)
  | _, _ => none
noncomputable def RNum.s8 (n : Int) (l : List Int) (a : Int) (bad : Bool) (x0 : Int) (x1 : (List Int)) (x2 : Int) (x3 : Int) (x4 : Int) (x5 : Bool) : St := ⟨[.dead, .dead, .dead, .dead, .dead, .dead, .dead, .d (.int .i64) x0, .dead, .dead, .dead, .dead, .dead, .dead, .dead, .dead, .dead, .dead, .dead, .dead, .dead, .dead, .dead, .dead, .d (.sl (.int .u8)) x1, .d (.int .i64) x2, .d (.int .i64) x3, .dead, .dead, .dead, .dead, .dead, .dead, .dead, .dead, .dead, .dead], ofL [(0, .box [.d (.sl (.int .u8)) (l), .d (.int .i64) x4, .d .bool x5])], 1⟩
noncomputable def RNum.b8 (n : Int) (l : List Int) (a : Int) (bad : Bool) (A8 : Int → (List Int) → Int → Int → Int → Bool → Option (Int × (List Int) × Int × Bool)) (x0 : Int) (x1 : (List Int)) (x2 : Int) (x3 : Int) (x4 : Int) (x5 : Bool) : Option (Int × (List Int) × Int × Bool) :=
  (if (decide (x3 < x2)) then (match (idx x1 x3) with | none => none | some y6 => A8 (bits Go.BinOp.or .i64 (Go.IntKind.wrap .i64 (x0 * ((2 : Int) ^ (Min.min (Int.toNat (8 : Int)) (Go.IntKind.bits .i64))))) (Go.IntKind.wrap .i64 y6)) x1 x2 (Go.IntKind.wrap .i64 (x3 + (1 : Int))) x4 x5) else some (x0, l, x4, x5))
noncomputable def RNum.l8 (fuel : Nat) (n : Int) (l : List Int) (a : Int) (bad : Bool) : Nat → Int → (List Int) → Int → Int → Int → Bool → Option (Int × (List Int) × Int × Bool)
  | 0, _, _, _, _, _, _ => none
  | k + 1, x0, x1, x2, x3, x4, x5 => RNum.b8 n l a bad (RNum.l8 fuel n l a bad k) x0 x1 x2 x3 x4 x5
noncomputable def RNum.b (n : Int) (l : List Int) (a : Int) (bad : Bool) (E8 : Int → (List Int) → Int → Int → Int → Bool → Option (Int × (List Int) × Int × Bool)) : Option (Int × (List Int) × Int × Bool) :=
  (if (decide (n < (1 : Int))) then (if (atOk l a) then (if (!(stepF l (-(1 : Int)) a bad).2.1) then some ((0 : Int), l, (stepF l (-(1 : Int)) a bad).2.2.1, (stepF l (-(1 : Int)) a bad).2.2.2) else E8 (0 : Int) (stepF l (-(1 : Int)) a bad).1 ((((List.length (stepF l (-(1 : Int)) a bad).1)) : Nat) : Int) (0 : Int) (stepF l (-(1 : Int)) a bad).2.2.1 (stepF l (-(1 : Int)) a bad).2.2.2) else none) else (if (decide (n > (7 : Int))) then (if (atOk l a) then (if (!(stepF l (-(1 : Int)) a bad).2.1) then some ((0 : Int), l, (stepF l (-(1 : Int)) a bad).2.2.1, (stepF l (-(1 : Int)) a bad).2.2.2) else E8 (0 : Int) (stepF l (-(1 : Int)) a bad).1 ((((List.length (stepF l (-(1 : Int)) a bad).1)) : Nat) : Int) (0 : Int) (stepF l (-(1 : Int)) a bad).2.2.1 (stepF l (-(1 : Int)) a bad).2.2.2) else none) else (if (atOk l a) then (if (!(stepF l n a bad).2.1) then some ((0 : Int), l, (stepF l n a bad).2.2.1, (stepF l n a bad).2.2.2) else E8 (0 : Int) (stepF l n a bad).1 ((((List.length (stepF l n a bad).1)) : Nat) : Int) (0 : Int) (stepF l n a bad).2.2.1 (stepF l n a bad).2.2.2) else none)))
noncomputable def RNum.f (fuel : Nat) (n : Int) (l : List Int) (a : Int) (bad : Bool) : Option (Int × (List Int) × Int × Bool) := RNum.b n l a bad (RNum.l8 fuel n l a bad fuel)
theorem RNum.l8_eq (fuel : Nat) (n : Int) (l : List Int) (a : Int) (bad : Bool) : ∀ (k : Nat) (x0 : Int) (x1 : (List Int)) (x2 : Int) (x3 : Int) (x4 : Int) (x5 : Bool), lp RNum_E fuel Try.f55 [.raw] 1 RNum.k 8 [] k (RNum.s8 n l a bad x0 x1 x2 x3 x4 x5) = RNum.l8 fuel n l a bad k x0 x1 x2 x3 x4 x5 := by
  intro k
  induction k with
  | zero => intro x0 x1 x2 x3 x4 x5; rfl
  | succ k ih =>
    intro x0 x1 x2 x3 x4 x5
    have h : lp RNum_E fuel Try.f55 [.raw] 1 RNum.k 8 [] (k + 1) (RNum.s8 n l a bad x0 x1 x2 x3 x4 x5) = RNum.b8 n l a bad (fun x0 x1 x2 x3 x4 x5 => lp RNum_E fuel Try.f55 [.raw] 1 RNum.k 8 [] k (RNum.s8 n l a bad x0 x1 x2 x3 x4 x5)) x0 x1 x2 x3 x4 x5 := by kernel_rfl
    rw [h]
    have e8 : (fun x0 x1 x2 x3 x4 x5 => lp RNum_E fuel Try.f55 [.raw] 1 RNum.k 8 [] k (RNum.s8 n l a bad x0 x1 x2 x3 x4 x5)) = RNum.l8 fuel n l a bad k := (funext fun x0 => (funext fun x1 => (funext fun x2 => (funext fun x3 => (funext fun x4 => (funext fun x5 => ih x0 x1 x2 x3 x4 x5))))))
    rw [e8]
    rfl
theorem RNum.eq (fuel : Nat) (n : Int) (l : List Int) (a : Int) (bad : Bool) : (denF RNum_E loopN fuel Try.f55 [.raw] [.ptr 0 0, .d (.int .i64) n] [.box [.d (.sl (.int .u8)) l, .d (.int .i64) a, .d .bool bad]] RNum.k) = RNum.f fuel n l a bad := by
  have h : (denF RNum_E loopN fuel Try.f55 [.raw] [.ptr 0 0, .d (.int .i64) n] [.box [.d (.sl (.int .u8)) l, .d (.int .i64) a, .d .bool bad]] RNum.k) = RNum.b n l a bad (fun x0 x1 x2 x3 x4 x5 => lp RNum_E fuel Try.f55 [.raw] 1 RNum.k 8 [] fuel (RNum.s8 n l a bad x0 x1 x2 x3 x4 x5)) := by kernel_rfl
  rw [h]
  have e8 : (fun x0 x1 x2 x3 x4 x5 => lp RNum_E fuel Try.f55 [.raw] 1 RNum.k 8 [] fuel (RNum.s8 n l a bad x0 x1 x2 x3 x4 x5)) = RNum.l8 fuel n l a bad fuel := (funext fun x0 => (funext fun x1 => (funext fun x2 => (funext fun x3 => (funext fun x4 => (funext fun x5 => RNum.l8_eq fuel n l a bad fuel x0 x1 x2 x3 x4 x5))))))
  rw [e8]
  rfl


noncomputable def RBad_E : Env := ⟨th, gam [], fun i => ⟨[], [], []⟩⟩
noncomputable def RBad.k (rs : List AV) (os : List Den.Obj) : Option (Bool × (List Int) × Int × Bool) :=
  match rs, os with
  | [.d .bool r0], [.box [.d (.sl (.int .u8)) r1, .d (.int .i64) r2, .d .bool r3]] => some (r0, r1, r2, r3)
  | _, _ => none
noncomputable def RBad.b (l : List Int) (a : Int) (bad : Bool) : Option (Bool × (List Int) × Int × Bool) :=
  some (bad, l, a, bad)
noncomputable def RBad.f (fuel : Nat) (l : List Int) (a : Int) (bad : Bool) : Option (Bool × (List Int) × Int × Bool) := RBad.b l a bad
theorem RBad.eq (fuel : Nat) (l : List Int) (a : Int) (bad : Bool) : (denF RBad_E loopN fuel Try.f57 [.raw] [.ptr 0 0] [.box [.d (.sl (.int .u8)) l, .d (.int .i64) a, .d .bool bad]] RBad.k) = RBad.f fuel l a bad := by
  kernel_rfl


noncomputable def RLeft_E : Env := ⟨th, gam [(57, s_bad)], fun i => ⟨[], [], []⟩⟩
noncomputable def RLeft.k (rs : List AV) (os : List Den.Obj) : Option (Int × (List Int) × Int × Bool) :=
  match rs, os with
  | [.d (.int .i64) r0], [.box [.d (.sl (.int .u8)) r1, .d (.int .i64) r2, .d .bool r3]] => some (r0, r1, r2, r3)
  | _, _ => none
noncomputable def RLeft.b (l : List Int) (a : Int) (bad : Bool) : Option (Int × (List Int) × Int × Bool) :=
  (if bad then some ((0 : Int), l, a, bad) else some ((Go.IntKind.wrap .i64 (((((List.length l)) : Nat) : Int) - a)), l, a, bad))
noncomputable def RLeft.f (fuel : Nat) (l : List Int) (a : Int) (bad : Bool) : Option (Int × (List Int) × Int × Bool) := RLeft.b l a bad
theorem RLeft.eq (fuel : Nat) (l : List Int) (a : Int) (bad : Bool) : (denF RLeft_E loopN fuel Try.f89 [.raw] [.ptr 0 0] [.box [.d (.sl (.int .u8)) l, .d (.int .i64) a, .d .bool bad]] RLeft.k) = RLeft.f fuel l a bad := by
  kernel_rfl


noncomputable def RDone_E : Env := ⟨th, gam [(57, s_bad), (89, s_left)], fun i => ⟨[], [], []⟩⟩
noncomputable def RDone.k (rs : List AV) (os : List Den.Obj) : Option (Bool × (List Int) × Int × Bool) :=
  match rs, os with
  | [.d .bool r0], [.box [.d (.sl (.int .u8)) r1, .d (.int .i64) r2, .d .bool r3]] => some (r0, r1, r2, r3)
  | _, _ => none
noncomputable def RDone.b (l : List Int) (a : Int) (bad : Bool) : Option (Bool × (List Int) × Int × Bool) :=
  (if (!bad) then (if (atOk l a) then some (((leftF l a bad) == (0 : Int)), l, a, bad) else none) else some (false, l, a, bad))
noncomputable def RDone.f (fuel : Nat) (l : List Int) (a : Int) (bad : Bool) : Option (Bool × (List Int) × Int × Bool) := RDone.b l a bad
theorem RDone.eq (fuel : Nat) (l : List Int) (a : Int) (bad : Bool) : (denF RDone_E loopN fuel Try.f59 [.raw] [.ptr 0 0] [.box [.d (.sl (.int .u8)) l, .d (.int .i64) a, .d .bool bad]] RDone.k) = RDone.f fuel l a bad := by
  kernel_rfl


noncomputable def One1_E : Env := ⟨th, gam [(55, s_rnum)], fun i => ⟨[], [], []⟩⟩
noncomputable def One1.k (rs : List AV) (os : List Den.Obj) : Option (Int × Int × Int × Int × Int × Bool × (List (Int × (List Int))) × (List Int) × Int × Bool) :=
  match rs, os with
  | [.agg [.d (.int .i64) r0, .d (.int .i64) r1, .d (.int .i64) r2, .d (.int .i64) r3, .d (.int .i64) r4, .d .bool r5, .d (.sl (.pair (.int .i64) (.sl (.int .u8)))) r6]], [.box [.d (.sl (.int .u8)) r7, .d (.int .i64) r8, .d .bool r9]] => some (r0, r1, r2, r3, r4, r5, r6, r7, r8, r9)
  | _, _ => none
noncomputable def One1.b (l : List Int) (a : Int) (bad : Bool) : Option (Int × Int × Int × Int × Int × Bool × (List (Int × (List Int))) × (List Int) × Int × Bool) :=
  (if (atOk l a) then (if (atOk l (readF l (2 : Int) a bad).2.1) then (if (atOk l (readF l (2 : Int) (readF l (2 : Int) a bad).2.1 (readF l (2 : Int) a bad).2.2).2.1) then (if (decide ((readF l (1 : Int) (readF l (2 : Int) (readF l (2 : Int) a bad).2.1 (readF l (2 : Int) a bad).2.2).2.1 (readF l (2 : Int) (readF l (2 : Int) a bad).2.1 (readF l (2 : Int) a bad).2.2).2.2).1 > (127 : Int))) then some ((-(1 : Int)), (readF l (2 : Int) (readF l (2 : Int) a bad).2.1 (readF l (2 : Int) a bad).2.2).1, (bits Go.BinOp.and .i64 (readF l (1 : Int) (readF l (2 : Int) (readF l (2 : Int) a bad).2.1 (readF l (2 : Int) a bad).2.2).2.1 (readF l (2 : Int) (readF l (2 : Int) a bad).2.1 (readF l (2 : Int) a bad).2.2).2.2).1 (3 : Int)), (bits Go.BinOp.and .i64 (Int.fdiv (readF l (1 : Int) (readF l (2 : Int) (readF l (2 : Int) a bad).2.1 (readF l (2 : Int) a bad).2.2).2.1 (readF l (2 : Int) (readF l (2 : Int) a bad).2.1 (readF l (2 : Int) a bad).2.2).2.2).1 ((2 : Int) ^ (Min.min (Int.toNat (2 : Int)) (Go.IntKind.bits .i64)))) (3 : Int)), (bits Go.BinOp.and .i64 (Int.fdiv (readF l (1 : Int) (readF l (2 : Int) (readF l (2 : Int) a bad).2.1 (readF l (2 : Int) a bad).2.2).2.1 (readF l (2 : Int) (readF l (2 : Int) a bad).2.1 (readF l (2 : Int) a bad).2.2).2.2).1 ((2 : Int) ^ (Min.min (Int.toNat (4 : Int)) (Go.IntKind.bits .i64)))) (3 : Int)), ((bits Go.BinOp.and .i64 (readF l (1 : Int) (readF l (2 : Int) (readF l (2 : Int) a bad).2.1 (readF l (2 : Int) a bad).2.2).2.1 (readF l (2 : Int) (readF l (2 : Int) a bad).2.1 (readF l (2 : Int) a bad).2.2).2.2).1 (64 : Int)) != (0 : Int)), [], l, (readF l (1 : Int) (readF l (2 : Int) (readF l (2 : Int) a bad).2.1 (readF l (2 : Int) a bad).2.2).2.1 (readF l (2 : Int) (readF l (2 : Int) a bad).2.1 (readF l (2 : Int) a bad).2.2).2.2).2.1, (readF l (1 : Int) (readF l (2 : Int) (readF l (2 : Int) a bad).2.1 (readF l (2 : Int) a bad).2.2).2.1 (readF l (2 : Int) (readF l (2 : Int) a bad).2.1 (readF l (2 : Int) a bad).2.2).2.2).2.2) else some ((readF l (2 : Int) a bad).1, (readF l (2 : Int) (readF l (2 : Int) a bad).2.1 (readF l (2 : Int) a bad).2.2).1, (bits Go.BinOp.and .i64 (readF l (1 : Int) (readF l (2 : Int) (readF l (2 : Int) a bad).2.1 (readF l (2 : Int) a bad).2.2).2.1 (readF l (2 : Int) (readF l (2 : Int) a bad).2.1 (readF l (2 : Int) a bad).2.2).2.2).1 (3 : Int)), (bits Go.BinOp.and .i64 (Int.fdiv (readF l (1 : Int) (readF l (2 : Int) (readF l (2 : Int) a bad).2.1 (readF l (2 : Int) a bad).2.2).2.1 (readF l (2 : Int) (readF l (2 : Int) a bad).2.1 (readF l (2 : Int) a bad).2.2).2.2).1 ((2 : Int) ^ (Min.min (Int.toNat (2 : Int)) (Go.IntKind.bits .i64)))) (3 : Int)), (bits Go.BinOp.and .i64 (Int.fdiv (readF l (1 : Int) (readF l (2 : Int) (readF l (2 : Int) a bad).2.1 (readF l (2 : Int) a bad).2.2).2.1 (readF l (2 : Int) (readF l (2 : Int) a bad).2.1 (readF l (2 : Int) a bad).2.2).2.2).1 ((2 : Int) ^ (Min.min (Int.toNat (4 : Int)) (Go.IntKind.bits .i64)))) (3 : Int)), ((bits Go.BinOp.and .i64 (readF l (1 : Int) (readF l (2 : Int) (readF l (2 : Int) a bad).2.1 (readF l (2 : Int) a bad).2.2).2.1 (readF l (2 : Int) (readF l (2 : Int) a bad).2.1 (readF l (2 : Int) a bad).2.2).2.2).1 (64 : Int)) != (0 : Int)), [], l, (readF l (1 : Int) (readF l (2 : Int) (readF l (2 : Int) a bad).2.1 (readF l (2 : Int) a bad).2.2).2.1 (readF l (2 : Int) (readF l (2 : Int) a bad).2.1 (readF l (2 : Int) a bad).2.2).2.2).2.1, (readF l (1 : Int) (readF l (2 : Int) (readF l (2 : Int) a bad).2.1 (readF l (2 : Int) a bad).2.2).2.1 (readF l (2 : Int) (readF l (2 : Int) a bad).2.1 (readF l (2 : Int) a bad).2.2).2.2).2.2)) else none) else none) else none)
noncomputable def One1.f (fuel : Nat) (l : List Int) (a : Int) (bad : Bool) : Option (Int × Int × Int × Int × Int × Bool × (List (Int × (List Int))) × (List Int) × Int × Bool) := One1.b l a bad
theorem One1.eq (fuel : Nat) (l : List Int) (a : Int) (bad : Bool) : (denF One1_E loopN fuel Try.f58 [.dat (.pair (.int .i64) (.pair (.int .i64) (.pair (.int .i64) (.pair (.pair (.int .i64) (.int .i64)) (.pair .bool (.sl (.pair (.int .i64) (.sl (.int .u8))))))))) true] [.fn (.func 55) [.ptr 0 0] []] [.box [.d (.sl (.int .u8)) l, .d (.int .i64) a, .d .bool bad]] One1.k) = One1.f fuel l a bad := by
  kernel_rfl


end Go.Proofs.Ytlmljpmohljefaa
