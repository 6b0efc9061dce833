/- The codecs, P2: C5 K5 S5 C6 K6 S6 C7 K7 C8 K8 S8 K9 C9 K10 K11 S9 C10 K12 -/
import Derived.Test.YtlmljpmohljefaaTh
import Derived.Test.YtlmljpmohljefaaP1
/- printed by denfn.py -/
set_option linter.unusedVariables false
namespace Go.Proofs.Ytlmljpmohljefaa
open Go.Den
noncomputable def allF : List (Int × Int) := [(1, 1), (1, 2), (1, 3), (2, 2), (2, 3), (3, 3)]
noncomputable def ofGo : List (Int × Int) → Int → Int × Int × Bool
  | [], c => (0, 0, false)
  | s :: l, c => if (codeF s.1 s.2 == c) = true then (s.1, s.2, true) else ofGo l c
noncomputable def inB (l : List Int) : Bool := roomy l && l.all fun c => decide (0 ≤ c) && decide (c ≤ 255)
noncomputable def atOk (l : List Int) (a : Int) : Bool := inB l && (decide (0 ≤ a) && decide (a ≤ (l.length : Int)))
noncomputable def seg (l : List Int) (a n : Int) : List Int := (l.take (a + n).toNat).drop a.toNat
/-- the bytes that come next, whether they are there, and the place behind them -/
noncomputable def stepF (l : List Int) (n a : Int) (bad : Bool) : List Int × Bool × Int × Bool :=
  if bad then ([], false, a, true) else if decide (n < 0) || decide (n > (l.length : Int) - a) then ([], false, a, true) else (seg l a n, true, a + n, false)
noncomputable def numB (p : List Int) : Int := p.foldl (fun v c => v * 256 + c) 0
noncomputable def readF (l : List Int) (n a : Int) (bad : Bool) : Int × Int × Bool :=
  let n' := if decide (n < 1) || decide (n > 7) then -1 else n
  ((if (stepF l n' a bad).2.1 then numB (stepF l n' a bad).1 else 0), (stepF l n' a bad).2.2.1, (stepF l n' a bad).2.2.2)
noncomputable def leftF (l : List Int) (a : Int) (bad : Bool) : Int := if bad then 0 else (l.length : Int) - a
noncomputable def oneF (l : List Int) (a : Int) (bad : Bool) : (Int × Int × Int × (Int × Int) × Bool × List (Int × List Int)) × Int × Bool :=
  let r1 := readF l 2 a bad
  let r2 := readF l 2 r1.2.1 r1.2.2
  let r3 := readF l 1 r2.2.1 r2.2.2
  (((if decide (r3.1 > 127) then -1 else r1.1), r2.1, r3.1 % 4, (r3.1 / 4 % 4, r3.1 / 16 % 4), r3.1 / 64 % 2 == 1, []), r3.2.1, r3.2.2)
noncomputable def s_all : Den.Sum := ⟨[], fun args objs κ => match args, objs with
  | [], [] => κ [.row 0] [.row 23 (.pair (.int .i64) (.int .i64)) allF false]
  | _, _ => none⟩
noncomputable def s_sof : Den.Sum := ⟨[.raw], fun args objs κ => match args, objs with
  | [.d (.int .i64) c], [] => κ [.agg [.d (.int .i64) (ofGo allF c).1, .d (.int .i64) (ofGo allF c).2.1], .d .bool (ofGo allF c).2.2] []
  | _, _ => none⟩
noncomputable def s_read : Den.Sum := ⟨[.dat (.sl (.int .u8)) false], fun args objs κ => match args, objs with
  | [.d (.sl (.int .u8)) l], [] => if inB l = true then κ [.ptr 0 0] [.box [.d (.sl (.int .u8)) l, .d (.int .i64) 0, .d .bool false]] else none
  | _, _ => none⟩
noncomputable def s_step : Den.Sum := ⟨[.raw, .raw], fun args objs κ => match args, objs with
  | [.ptr 0 0, .d (.int .i64) n], [.box [.d (.sl (.int .u8)) l, .d (.int .i64) a, .d .bool bad]] => if atOk l a = true then κ [.d (.sl (.int .u8)) (stepF l n a bad).1, .d .bool (stepF l n a bad).2.1] [.box [.d (.sl (.int .u8)) l, .d (.int .i64) (stepF l n a bad).2.2.1, .d .bool (stepF l n a bad).2.2.2]] else none
  | _, _ => none⟩
noncomputable def s_rnum : Den.Sum := ⟨[.raw, .raw], fun args objs κ => match args, objs with
  | [.ptr 0 0, .d (.int .i64) n], [.box [.d (.sl (.int .u8)) l, .d (.int .i64) a, .d .bool bad]] => if atOk l a = true then κ [.d (.int .i64) (readF l n a bad).1] [.box [.d (.sl (.int .u8)) l, .d (.int .i64) (readF l n a bad).2.1, .d .bool (readF l n a bad).2.2]] else none
  | _, _ => none⟩
noncomputable def s_bad : Den.Sum := ⟨[.raw], fun args objs κ => match args, objs with
  | [.ptr 0 0], [.box [.d (.sl (.int .u8)) l, .d (.int .i64) a, .d .bool bad]] => κ [.d .bool bad] [.box [.d (.sl (.int .u8)) l, .d (.int .i64) a, .d .bool bad]]
  | _, _ => none⟩
noncomputable def s_left : Den.Sum := ⟨[.raw], fun args objs κ => match args, objs with
  | [.ptr 0 0], [.box [.d (.sl (.int .u8)) l, .d (.int .i64) a, .d .bool bad]] => if atOk l a = true then κ [.d (.int .i64) (leftF l a bad)] [.box [.d (.sl (.int .u8)) l, .d (.int .i64) a, .d .bool bad]] else none
  | _, _ => none⟩
noncomputable def s_done : Den.Sum := ⟨[.raw], fun args objs κ => match args, objs with
  | [.ptr 0 0], [.box [.d (.sl (.int .u8)) l, .d (.int .i64) a, .d .bool bad]] => if atOk l a = true then κ [.d .bool (!bad && (leftF l a bad == 0))] [.box [.d (.sl (.int .u8)) l, .d (.int .i64) a, .d .bool bad]] else none
  | _, _ => none⟩
noncomputable def s_one : Den.Sum := ⟨[.raw], fun args objs κ => match args, objs with
  | [.fn (.func 55) [.ptr 0 0] []], [.box [.d (.sl (.int .u8)) l, .d (.int .i64) a, .d .bool bad]] => if atOk l a = true then κ [.agg [.d (.int .i64) (oneF l a bad).1.1, .d (.int .i64) (oneF l a bad).1.2.1, .d (.int .i64) (oneF l a bad).1.2.2.1, .d (.int .i64) (oneF l a bad).1.2.2.2.1.1, .d (.int .i64) (oneF l a bad).1.2.2.2.1.2, .d .bool (oneF l a bad).1.2.2.2.2.1, .d (.sl (.pair (.int .i64) (.sl (.int .u8)))) []]] [.box [.d (.sl (.int .u8)) l, .d (.int .i64) (oneF l a bad).2.1, .d .bool (oneF l a bad).2.2]] else none
  | _, _ => none⟩
noncomputable def SAll_E : Env := ⟨th, gam [], fun i => if i = 3 then ⟨[1, 2], [(1, 23, (.pair (.int .i64) (.int .i64)))], []⟩ else if i = 6 then ⟨[1, 2, 3], [], []⟩ else ⟨[], [], []⟩⟩
noncomputable def SAll.k (rs : List AV) (os : List Den.Obj) : Option (List (Int × Int)) :=
  match rs, os with
  | [.row 0], [.row 23 (.pair (.int .i64) (.int .i64)) r0 false] => some r0
  | _, _ => none
noncomputable def SAll.s6 (u : Unit) (x2 : Int) (x3 : Int) (x4 : (List (Int × Int))) : St := ⟨[.dead, .row 64, .d (.int .i64) x2, .d (.int .i64) x3, .dead, .dead, .dead, .dead, .dead, .dead, .dead, .dead, .dead, .dead, .dead, .dead, .dead, .dead, .dead, .dead], ofL [(64, .row 23 (.pair (.int .i64) (.int .i64)) x4 false)], 0⟩
noncomputable def SAll.b6 (u : Unit) (A3 : Int → (List (Int × Int)) → Option (List (Int × Int))) (A6 : Int → Int → (List (Int × Int)) → Option (List (Int × Int))) (x2 : Int) (x3 : Int) (x4 : (List (Int × Int))) : Option (List (Int × Int)) :=
  (if (decide (x3 ≤ (3 : Int))) then (if ((((List.length x4) + (List.length ((x2, x3) :: []))) * (16 : Nat)) ≤ lim) then A6 x2 (Go.IntKind.wrap .i64 (x3 + (1 : Int))) (x4 ++ ((x2, x3) :: [])) else none) else A3 (Go.IntKind.wrap .i64 (x2 + (1 : Int))) x4)
noncomputable def SAll.l6 (fuel : Nat) (u : Unit) (A3 : Int → (List (Int × Int)) → Option (List (Int × Int))) : Nat → Int → Int → (List (Int × Int)) → Option (List (Int × Int))
  | 0, _, _, _ => none
  | k + 1, x2, x3, x4 => SAll.b6 u A3 (SAll.l6 fuel u A3 k) x2 x3 x4
noncomputable def SAll.s3 (u : Unit) (x0 : Int) (x1 : (List (Int × Int))) : St := ⟨[.dead, .row 64, .d (.int .i64) x0, .dead, .dead, .dead, .dead, .dead, .dead, .dead, .dead, .dead, .dead, .dead, .dead, .dead, .dead, .dead, .dead, .dead], ofL [(64, .row 23 (.pair (.int .i64) (.int .i64)) x1 false)], 0⟩
noncomputable def SAll.b3 (u : Unit) (A3 : Int → (List (Int × Int)) → Option (List (Int × Int))) (E6 : Int → Int → (List (Int × Int)) → Option (List (Int × Int))) (x0 : Int) (x1 : (List (Int × Int))) : Option (List (Int × Int)) :=
  (if (decide (x0 ≤ (3 : Int))) then E6 x0 x0 x1 else some (x1))
noncomputable def SAll.l3 (fuel : Nat) (u : Unit) : Nat → Int → (List (Int × Int)) → Option (List (Int × Int))
  | 0, _, _ => none
  | k + 1, x0, x1 => SAll.b3 u (SAll.l3 fuel u k) (SAll.l6 fuel u (SAll.l3 fuel u k) fuel) x0 x1
noncomputable def SAll.b (u : Unit) (E3 : Int → (List (Int × Int)) → Option (List (Int × Int))) : Option (List (Int × Int)) :=
  E3 (1 : Int) []
noncomputable def SAll.f (fuel : Nat) (u : Unit) : Option (List (Int × Int)) := SAll.b u (SAll.l3 fuel u fuel)
theorem SAll.l6_eq (fuel : Nat) (u : Unit) (k3 : Nat) : ∀ (k : Nat) (x2 : Int) (x3 : Int) (x4 : (List (Int × Int))), lp SAll_E fuel Try.f88 [.own 23 (.pair (.int .i64) (.int .i64))] 0 SAll.k 6 [k3] k (SAll.s6 u x2 x3 x4) = SAll.l6 fuel u (fun x0 x1 => lp SAll_E fuel Try.f88 [.own 23 (.pair (.int .i64) (.int .i64))] 0 SAll.k 3 [] k3 (SAll.s3 u x0 x1)) k x2 x3 x4 := by
  intro k
  induction k with
  | zero => intro x2 x3 x4; rfl
  | succ k ih =>
    intro x2 x3 x4
    have h : lp SAll_E fuel Try.f88 [.own 23 (.pair (.int .i64) (.int .i64))] 0 SAll.k 6 [k3] (k + 1) (SAll.s6 u x2 x3 x4) = SAll.b6 u (fun x0 x1 => lp SAll_E fuel Try.f88 [.own 23 (.pair (.int .i64) (.int .i64))] 0 SAll.k 3 [] k3 (SAll.s3 u x0 x1)) (fun x2 x3 x4 => lp SAll_E fuel Try.f88 [.own 23 (.pair (.int .i64) (.int .i64))] 0 SAll.k 6 [k3] k (SAll.s6 u x2 x3 x4)) x2 x3 x4 := by kernel_rfl
    rw [h]
    have e6 : (fun x2 x3 x4 => lp SAll_E fuel Try.f88 [.own 23 (.pair (.int .i64) (.int .i64))] 0 SAll.k 6 [k3] k (SAll.s6 u x2 x3 x4)) = SAll.l6 fuel u (fun x0 x1 => lp SAll_E fuel Try.f88 [.own 23 (.pair (.int .i64) (.int .i64))] 0 SAll.k 3 [] k3 (SAll.s3 u x0 x1)) k := (funext fun x2 => (funext fun x3 => (funext fun x4 => ih x2 x3 x4)))
    rw [e6]
    rfl
theorem SAll.l3_eq (fuel : Nat) (u : Unit) : ∀ (k : Nat) (x0 : Int) (x1 : (List (Int × Int))), lp SAll_E fuel Try.f88 [.own 23 (.pair (.int .i64) (.int .i64))] 0 SAll.k 3 [] k (SAll.s3 u x0 x1) = SAll.l3 fuel u k x0 x1 := by
  intro k
  induction k with
  | zero => intro x0 x1; rfl
  | succ k ih =>
    intro x0 x1
    have h : lp SAll_E fuel Try.f88 [.own 23 (.pair (.int .i64) (.int .i64))] 0 SAll.k 3 [] (k + 1) (SAll.s3 u x0 x1) = SAll.b3 u (fun x0 x1 => lp SAll_E fuel Try.f88 [.own 23 (.pair (.int .i64) (.int .i64))] 0 SAll.k 3 [] k (SAll.s3 u x0 x1)) (fun x2 x3 x4 => lp SAll_E fuel Try.f88 [.own 23 (.pair (.int .i64) (.int .i64))] 0 SAll.k 6 [k] fuel (SAll.s6 u x2 x3 x4)) x0 x1 := by kernel_rfl
    rw [h]
    have e3 : (fun x0 x1 => lp SAll_E fuel Try.f88 [.own 23 (.pair (.int .i64) (.int .i64))] 0 SAll.k 3 [] k (SAll.s3 u x0 x1)) = SAll.l3 fuel u k := (funext fun x0 => (funext fun x1 => ih x0 x1))
    rw [e3]
    have e6 : (fun x2 x3 x4 => lp SAll_E fuel Try.f88 [.own 23 (.pair (.int .i64) (.int .i64))] 0 SAll.k 6 [k] fuel (SAll.s6 u x2 x3 x4)) = SAll.l6 fuel u (fun x0 x1 => lp SAll_E fuel Try.f88 [.own 23 (.pair (.int .i64) (.int .i64))] 0 SAll.k 3 [] k (SAll.s3 u x0 x1)) fuel := (funext fun x2 => (funext fun x3 => (funext fun x4 => SAll.l6_eq fuel u k fuel x2 x3 x4)))
    rw [e6]
    rw [e3]
    rfl
theorem SAll.eq (fuel : Nat) (u : Unit) : (denF SAll_E loopN fuel Try.f88 [.own 23 (.pair (.int .i64) (.int .i64))] [] [] SAll.k) = SAll.f fuel u := by
  have h : (denF SAll_E loopN fuel Try.f88 [.own 23 (.pair (.int .i64) (.int .i64))] [] [] SAll.k) = SAll.b u (fun x0 x1 => lp SAll_E fuel Try.f88 [.own 23 (.pair (.int .i64) (.int .i64))] 0 SAll.k 3 [] fuel (SAll.s3 u x0 x1)) := by kernel_rfl
  rw [h]
  have e3 : (fun x0 x1 => lp SAll_E fuel Try.f88 [.own 23 (.pair (.int .i64) (.int .i64))] 0 SAll.k 3 [] fuel (SAll.s3 u x0 x1)) = SAll.l3 fuel u fuel := (funext fun x0 => (funext fun x1 => SAll.l3_eq fuel u fuel x0 x1))
  rw [e3]
  rfl


noncomputable def SOf_E : Env := ⟨th, gam [(88, s_all), (44, s_code)], fun i => if i = 2 then ⟨[0, 2, 6, 7, 8], [], []⟩ else ⟨[], [], []⟩⟩
noncomputable def SOf.k (rs : List AV) (os : List Den.Obj) : Option (Int × Int × Bool) :=
  match rs, os with
  | [.agg [.d (.int .i64) r0, .d (.int .i64) r1], .d .bool r2], [] => some (r0, r1, r2)
  | _, _ => none
noncomputable def SOf.s2 (c : Int) (x0 : Int) (x1 : Int) : St := ⟨[.d (.int .i64) (c), .dead, .ptr 64 0, .dead, .dead, .dead, .row 65, .d (.int .i64) x0, .d (.int .i64) x1, .dead, .dead, .dead, .dead, .dead, .dead, .dead, .dead, .dead, .dead], ofL [(64, .box [.d (.int .i64) (0), .d (.int .i64) (0)]), (65, .row 23 (.pair (.int .i64) (.int .i64)) (allF) false)], 0⟩
noncomputable def SOf.b2 (c : Int) (A2 : Int → Int → Option (Int × Int × Bool)) (x0 : Int) (x1 : Int) : Option (Int × Int × Bool) :=
  (if (decide (x1 < x0)) then (match (idx allF x1) with | none => none | some y2 => (match (idx allF x1) with | none => none | some y3 => (if ((codeF y3.1 y3.2) == c) then some (y3.1, y3.2, true) else A2 x0 (Go.IntKind.wrap .i64 (x1 + (1 : Int)))))) else some (0, 0, false))
noncomputable def SOf.l2 (fuel : Nat) (c : Int) : Nat → Int → Int → Option (Int × Int × Bool)
  | 0, _, _ => none
  | k + 1, x0, x1 => SOf.b2 c (SOf.l2 fuel c k) x0 x1
noncomputable def SOf.b (c : Int) (E2 : Int → Int → Option (Int × Int × Bool)) : Option (Int × Int × Bool) :=
  E2 ((((List.length allF)) : Nat) : Int) (0 : Int)
noncomputable def SOf.f (fuel : Nat) (c : Int) : Option (Int × Int × Bool) := SOf.b c (SOf.l2 fuel c fuel)
theorem SOf.l2_eq (fuel : Nat) (c : Int) : ∀ (k : Nat) (x0 : Int) (x1 : Int), lp SOf_E fuel Try.f56 [.dat (.pair (.int .i64) (.int .i64)) true, .raw] 0 SOf.k 2 [] k (SOf.s2 c x0 x1) = SOf.l2 fuel c k x0 x1 := by
  intro k
  induction k with
  | zero => intro x0 x1; rfl
  | succ k ih =>
    intro x0 x1
    have h : lp SOf_E fuel Try.f56 [.dat (.pair (.int .i64) (.int .i64)) true, .raw] 0 SOf.k 2 [] (k + 1) (SOf.s2 c x0 x1) = SOf.b2 c (fun x0 x1 => lp SOf_E fuel Try.f56 [.dat (.pair (.int .i64) (.int .i64)) true, .raw] 0 SOf.k 2 [] k (SOf.s2 c x0 x1)) x0 x1 := by kernel_rfl
    rw [h]
    have e2 : (fun x0 x1 => lp SOf_E fuel Try.f56 [.dat (.pair (.int .i64) (.int .i64)) true, .raw] 0 SOf.k 2 [] k (SOf.s2 c x0 x1)) = SOf.l2 fuel c k := (funext fun x0 => (funext fun x1 => ih x0 x1))
    rw [e2]
    rfl
theorem SOf.eq (fuel : Nat) (c : Int) : (denF SOf_E loopN fuel Try.f56 [.dat (.pair (.int .i64) (.int .i64)) true, .raw] [.d (.int .i64) c] [] SOf.k) = SOf.f fuel c := by
  have h : (denF SOf_E loopN fuel Try.f56 [.dat (.pair (.int .i64) (.int .i64)) true, .raw] [.d (.int .i64) c] [] SOf.k) = SOf.b c (fun x0 x1 => lp SOf_E fuel Try.f56 [.dat (.pair (.int .i64) (.int .i64)) true, .raw] 0 SOf.k 2 [] fuel (SOf.s2 c x0 x1)) := by kernel_rfl
  rw [h]
  have e2 : (fun x0 x1 => lp SOf_E fuel Try.f56 [.dat (.pair (.int .i64) (.int .i64)) true, .raw] 0 SOf.k 2 [] fuel (SOf.s2 c x0 x1)) = SOf.l2 fuel c fuel := (funext fun x0 => (funext fun x1 => SOf.l2_eq fuel c fuel x0 x1))
  rw [e2]
  rfl


noncomputable def ORead_E : Env := ⟨th, gam [], fun i => ⟨[], [], []⟩⟩
noncomputable def ORead.k (rs : List AV) (os : List Den.Obj) : Option ((List Int) × Int × Bool) :=
  match rs, os with
  | [.ptr 0 0], [.box [.d (.sl (.int .u8)) r0, .d (.int .i64) r1, .d .bool r2]] => some (r0, r1, r2)
  | _, _ => none
noncomputable def ORead.b (l : List Int) : Option ((List Int) × Int × Bool) :=
  (if (((0 : Int) ≤ ((((List.length l)) : Nat) : Int)) ∧ ((((((List.length l)) : Nat) : Int) ≤ ((((List.length l)) : Nat) : Int)) ∧ (((((((List.length l)) : Nat) : Int) * ((((1 : Nat)) : Nat) : Int)) ≤ (1099511627776 : Int)) ∧ (((((List.length l)) : Nat) : Int) ≤ (1099511627776 : Int))))) then (if ((false = false) ∧ ((List.length l) ≤ (List.length (List.replicate (Int.toNat ((((List.length l)) : Nat) : Int)) (zeroI (Go.Den.Ty.int .u8)))))) then some ((l ++ (List.drop (List.length l) (List.replicate (Int.toNat ((((List.length l)) : Nat) : Int)) (zeroI (Go.Den.Ty.int .u8))))), 0, false) else none) else none)
noncomputable def ORead.f (fuel : Nat) (l : List Int) : Option ((List Int) × Int × Bool) := ORead.b l
theorem ORead.eq (fuel : Nat) (l : List Int) : (denF ORead_E loopN fuel Try.f54 [.fz] [.d (.sl (.int .u8)) l] [] ORead.k) = ORead.f fuel l := by
  kernel_rfl


noncomputable def OStep_E : Env := ⟨th, gam [], fun i => ⟨[], [], []⟩⟩
noncomputable def OStep.k (rs : List AV) (os : List Den.Obj) : Option ((List Int) × Bool × (List Int) × Int × Bool) :=
  match rs, os with
  | [.d (.sl (.int .u8)) r0, .d .bool r1], [.box [.d (.sl (.int .u8)) r2, .d (.int .i64) r3, .d .bool r4]] => some (r0, r1, r2, r3, r4)
  | _, _ => none
noncomputable def OStep.b (n : Int) (l : List Int) (a : Int) (bad : Bool) : Option ((List Int) × Bool × (List Int) × Int × Bool) :=
  (if bad then some ([], false, l, a, bad) else (if (decide (n < (0 : Int))) then some ([], false, l, a, true) else (if (decide (n > (Go.IntKind.wrap .i64 (((((List.length l)) : Nat) : Int) - a)))) then some ([], false, l, a, true) else (if (((0 : Int) ≤ a) ∧ ((a ≤ (Go.IntKind.wrap .i64 (a + n))) ∧ ((Go.IntKind.wrap .i64 (a + n)) ≤ ((((List.length l)) : Nat) : Int)))) then some ((List.drop (Int.toNat a) (List.take (Int.toNat (Go.IntKind.wrap .i64 (a + n))) l)), true, l, (Go.IntKind.wrap .i64 (a + n)), bad) else none))))
noncomputable def OStep.f (fuel : Nat) (n : Int) (l : List Int) (a : Int) (bad : Bool) : Option ((List Int) × Bool × (List Int) × Int × Bool) := OStep.b n l a bad
theorem OStep.eq (fuel : Nat) (n : Int) (l : List Int) (a : Int) (bad : Bool) : (denF OStep_E loopN fuel Try.f87 [.dat (.sl (.int .u8)) false, .raw] [.ptr 0 0, .d (.int .i64) n] [.box [.d (.sl (.int .u8)) l, .d (.int .i64) a, .d .bool bad]] OStep.k) = OStep.f fuel n l a bad := by
  kernel_rfl


noncomputable def RNum_E : Env := ⟨th, gam [(87, s_step)], fun i => if i = 8 then ⟨[7, 24, 25, 26], [], []⟩ else ⟨[], [], []⟩⟩
noncomputable def RNum.k (rs : List AV) (os : List Den.Obj) : Option (Int × (List Int) × Int × Bool) :=
  match rs, os with
  | [.d (.int .i64) r0], [.box [.d (.sl (.int .u8)) r1, .d (.int .i64) r2, .d .bool r3]] => some (r0, r1, r2, r3)
  | _, _ => none
noncomputable def RNum.s8 (n : Int) (l : List Int) (a : Int) (bad : Bool) (x0 : Int) (x1 : (List Int)) (x2 : Int) (x3 : Int) (x4 : Int) (x5 : Bool) : St := ⟨[.dead, .dead, .dead, .dead, .dead, .dead, .dead, .d (.int .i64) x0, .dead, .dead, .dead, .dead, .dead, .dead, .dead, .dead, .dead, .dead, .dead, .dead, .dead, .dead, .dead, .dead, .d (.sl (.int .u8)) x1, .d (.int .i64) x2, .d (.int .i64) x3, .dead, .dead, .dead, .dead, .dead, .dead, .dead, .dead, .dead, .dead], ofL [(0, .box [.d (.sl (.int .u8)) (l), .d (.int .i64) x4, .d .bool x5])], 1⟩
noncomputable def RNum.b8 (n : Int) (l : List Int) (a : Int) (bad : Bool) (A8 : Int → (List Int) → Int → Int → Int → Bool → Option (Int × (List Int) × Int × Bool)) (x0 : Int) (x1 : (List Int)) (x2 : Int) (x3 : Int) (x4 : Int) (x5 : Bool) : Option (Int × (List Int) × Int × Bool) :=
  (if (decide (x3 < x2)) then (match (idx x1 x3) with | none => none | some y6 => A8 (bits Go.BinOp.or .i64 (Go.IntKind.wrap .i64 (x0 * ((2 : Int) ^ (Min.min (Int.toNat (8 : Int)) (Go.IntKind.bits .i64))))) (Go.IntKind.wrap .i64 y6)) x1 x2 (Go.IntKind.wrap .i64 (x3 + (1 : Int))) x4 x5) else some (x0, l, x4, x5))
noncomputable def RNum.l8 (fuel : Nat) (n : Int) (l : List Int) (a : Int) (bad : Bool) : Nat → Int → (List Int) → Int → Int → Int → Bool → Option (Int × (List Int) × Int × Bool)
  | 0, _, _, _, _, _, _ => none
  | k + 1, x0, x1, x2, x3, x4, x5 => RNum.b8 n l a bad (RNum.l8 fuel n l a bad k) x0 x1 x2 x3 x4 x5
noncomputable def RNum.b (n : Int) (l : List Int) (a : Int) (bad : Bool) (E8 : Int → (List Int) → Int → Int → Int → Bool → Option (Int × (List Int) × Int × Bool)) : Option (Int × (List Int) × Int × Bool) :=
  (if (decide (n < (1 : Int))) then (if (atOk l a) then (if (!(stepF l (-(1 : Int)) a bad).2.1) then some ((0 : Int), l, (stepF l (-(1 : Int)) a bad).2.2.1, (stepF l (-(1 : Int)) a bad).2.2.2) else E8 (0 : Int) (stepF l (-(1 : Int)) a bad).1 ((((List.length (stepF l (-(1 : Int)) a bad).1)) : Nat) : Int) (0 : Int) (stepF l (-(1 : Int)) a bad).2.2.1 (stepF l (-(1 : Int)) a bad).2.2.2) else none) else (if (decide (n > (7 : Int))) then (if (atOk l a) then (if (!(stepF l (-(1 : Int)) a bad).2.1) then some ((0 : Int), l, (stepF l (-(1 : Int)) a bad).2.2.1, (stepF l (-(1 : Int)) a bad).2.2.2) else E8 (0 : Int) (stepF l (-(1 : Int)) a bad).1 ((((List.length (stepF l (-(1 : Int)) a bad).1)) : Nat) : Int) (0 : Int) (stepF l (-(1 : Int)) a bad).2.2.1 (stepF l (-(1 : Int)) a bad).2.2.2) else none) else (if (atOk l a) then (if (!(stepF l n a bad).2.1) then some ((0 : Int), l, (stepF l n a bad).2.2.1, (stepF l n a bad).2.2.2) else E8 (0 : Int) (stepF l n a bad).1 ((((List.length (stepF l n a bad).1)) : Nat) : Int) (0 : Int) (stepF l n a bad).2.2.1 (stepF l n a bad).2.2.2) else none)))
noncomputable def RNum.f (fuel : Nat) (n : Int) (l : List Int) (a : Int) (bad : Bool) : Option (Int × (List Int) × Int × Bool) := RNum.b n l a bad (RNum.l8 fuel n l a bad fuel)
theorem RNum.l8_eq (fuel : Nat) (n : Int) (l : List Int) (a : Int) (bad : Bool) : ∀ (k : Nat) (x0 : Int) (x1 : (List Int)) (x2 : Int) (x3 : Int) (x4 : Int) (x5 : Bool), lp RNum_E fuel Try.f55 [.raw] 1 RNum.k 8 [] k (RNum.s8 n l a bad x0 x1 x2 x3 x4 x5) = RNum.l8 fuel n l a bad k x0 x1 x2 x3 x4 x5 := by
  intro k
  induction k with
  | zero => intro x0 x1 x2 x3 x4 x5; rfl
  | succ k ih =>
    intro x0 x1 x2 x3 x4 x5
    have h : lp RNum_E fuel Try.f55 [.raw] 1 RNum.k 8 [] (k + 1) (RNum.s8 n l a bad x0 x1 x2 x3 x4 x5) = RNum.b8 n l a bad (fun x0 x1 x2 x3 x4 x5 => lp RNum_E fuel Try.f55 [.raw] 1 RNum.k 8 [] k (RNum.s8 n l a bad x0 x1 x2 x3 x4 x5)) x0 x1 x2 x3 x4 x5 := by kernel_rfl
    rw [h]
    have e8 : (fun x0 x1 x2 x3 x4 x5 => lp RNum_E fuel Try.f55 [.raw] 1 RNum.k 8 [] k (RNum.s8 n l a bad x0 x1 x2 x3 x4 x5)) = RNum.l8 fuel n l a bad k := (funext fun x0 => (funext fun x1 => (funext fun x2 => (funext fun x3 => (funext fun x4 => (funext fun x5 => ih x0 x1 x2 x3 x4 x5))))))
    rw [e8]
    rfl
theorem RNum.eq (fuel : Nat) (n : Int) (l : List Int) (a : Int) (bad : Bool) : (denF RNum_E loopN fuel Try.f55 [.raw] [.ptr 0 0, .d (.int .i64) n] [.box [.d (.sl (.int .u8)) l, .d (.int .i64) a, .d .bool bad]] RNum.k) = RNum.f fuel n l a bad := by
  have h : (denF RNum_E loopN fuel Try.f55 [.raw] [.ptr 0 0, .d (.int .i64) n] [.box [.d (.sl (.int .u8)) l, .d (.int .i64) a, .d .bool bad]] RNum.k) = RNum.b n l a bad (fun x0 x1 x2 x3 x4 x5 => lp RNum_E fuel Try.f55 [.raw] 1 RNum.k 8 [] fuel (RNum.s8 n l a bad x0 x1 x2 x3 x4 x5)) := by kernel_rfl
  rw [h]
  have e8 : (fun x0 x1 x2 x3 x4 x5 => lp RNum_E fuel Try.f55 [.raw] 1 RNum.k 8 [] fuel (RNum.s8 n l a bad x0 x1 x2 x3 x4 x5)) = RNum.l8 fuel n l a bad fuel := (funext fun x0 => (funext fun x1 => (funext fun x2 => (funext fun x3 => (funext fun x4 => (funext fun x5 => RNum.l8_eq fuel n l a bad fuel x0 x1 x2 x3 x4 x5))))))
  rw [e8]
  rfl


noncomputable def RBad_E : Env := ⟨th, gam [], fun i => ⟨[], [], []⟩⟩
noncomputable def RBad.k (rs : List AV) (os : List Den.Obj) : Option (Bool × (List Int) × Int × Bool) :=
  match rs, os with
  | [.d .bool r0], [.box [.d (.sl (.int .u8)) r1, .d (.int .i64) r2, .d .bool r3]] => some (r0, r1, r2, r3)
  | _, _ => none
noncomputable def RBad.b (l : List Int) (a : Int) (bad : Bool) : Option (Bool × (List Int) × Int × Bool) :=
  some (bad, l, a, bad)
noncomputable def RBad.f (fuel : Nat) (l : List Int) (a : Int) (bad : Bool) : Option (Bool × (List Int) × Int × Bool) := RBad.b l a bad
theorem RBad.eq (fuel : Nat) (l : List Int) (a : Int) (bad : Bool) : (denF RBad_E loopN fuel Try.f57 [.raw] [.ptr 0 0] [.box [.d (.sl (.int .u8)) l, .d (.int .i64) a, .d .bool bad]] RBad.k) = RBad.f fuel l a bad := by
  kernel_rfl


noncomputable def RLeft_E : Env := ⟨th, gam [(57, s_bad)], fun i => ⟨[], [], []⟩⟩
noncomputable def RLeft.k (rs : List AV) (os : List Den.Obj) : Option (Int × (List Int) × Int × Bool) :=
  match rs, os with
  | [.d (.int .i64) r0], [.box [.d (.sl (.int .u8)) r1, .d (.int .i64) r2, .d .bool r3]] => some (r0, r1, r2, r3)
  | _, _ => none
noncomputable def RLeft.b (l : List Int) (a : Int) (bad : Bool) : Option (Int × (List Int) × Int × Bool) :=
  (if bad then some ((0 : Int), l, a, bad) else some ((Go.IntKind.wrap .i64 (((((List.length l)) : Nat) : Int) - a)), l, a, bad))
noncomputable def RLeft.f (fuel : Nat) (l : List Int) (a : Int) (bad : Bool) : Option (Int × (List Int) × Int × Bool) := RLeft.b l a bad
theorem RLeft.eq (fuel : Nat) (l : List Int) (a : Int) (bad : Bool) : (denF RLeft_E loopN fuel Try.f89 [.raw] [.ptr 0 0] [.box [.d (.sl (.int .u8)) l, .d (.int .i64) a, .d .bool bad]] RLeft.k) = RLeft.f fuel l a bad := by
  kernel_rfl


noncomputable def RDone_E : Env := ⟨th, gam [(57, s_bad), (89, s_left)], fun i => ⟨[], [], []⟩⟩
noncomputable def RDone.k (rs : List AV) (os : List Den.Obj) : Option (Bool × (List Int) × Int × Bool) :=
  match rs, os with
  | [.d .bool r0], [.box [.d (.sl (.int .u8)) r1, .d (.int .i64) r2, .d .bool r3]] => some (r0, r1, r2, r3)
  | _, _ => none
noncomputable def RDone.b (l : List Int) (a : Int) (bad : Bool) : Option (Bool × (List Int) × Int × Bool) :=
  (if (!bad) then (if (atOk l a) then some (((leftF l a bad) == (0 : Int)), l, a, bad) else none) else some (false, l, a, bad))
noncomputable def RDone.f (fuel : Nat) (l : List Int) (a : Int) (bad : Bool) : Option (Bool × (List Int) × Int × Bool) := RDone.b l a bad
theorem RDone.eq (fuel : Nat) (l : List Int) (a : Int) (bad : Bool) : (denF RDone_E loopN fuel Try.f59 [.raw] [.ptr 0 0] [.box [.d (.sl (.int .u8)) l, .d (.int .i64) a, .d .bool bad]] RDone.k) = RDone.f fuel l a bad := by
  kernel_rfl


noncomputable def One1_E : Env := ⟨th, gam [(55, s_rnum)], fun i => ⟨[], [], []⟩⟩
noncomputable def One1.k (rs : List AV) (os : List Den.Obj) : Option (Int × Int × Int × Int × Int × Bool × (List (Int × (List Int))) × (List Int) × Int × Bool) :=
  match rs, os with
  | [.agg [.d (.int .i64) r0, .d (.int .i64) r1, .d (.int .i64) r2, .d (.int .i64) r3, .d (.int .i64) r4, .d .bool r5, .d (.sl (.pair (.int .i64) (.sl (.int .u8)))) r6]], [.box [.d (.sl (.int .u8)) r7, .d (.int .i64) r8, .d .bool r9]] => some (r0, r1, r2, r3, r4, r5, r6, r7, r8, r9)
  | _, _ => none
noncomputable def One1.b (l : List Int) (a : Int) (bad : Bool) : Option (Int × Int × Int × Int × Int × Bool × (List (Int × (List Int))) × (List Int) × Int × Bool) :=
  (if (atOk l a) then (if (atOk l (readF l (2 : Int) a bad).2.1) then (if (atOk l (readF l (2 : Int) (readF l (2 : Int) a bad).2.1 (readF l (2 : Int) a bad).2.2).2.1) then (if (decide ((readF l (1 : Int) (readF l (2 : Int) (readF l (2 : Int) a bad).2.1 (readF l (2 : Int) a bad).2.2).2.1 (readF l (2 : Int) (readF l (2 : Int) a bad).2.1 (readF l (2 : Int) a bad).2.2).2.2).1 > (127 : Int))) then some ((-(1 : Int)), (readF l (2 : Int) (readF l (2 : Int) a bad).2.1 (readF l (2 : Int) a bad).2.2).1, (bits Go.BinOp.and .i64 (readF l (1 : Int) (readF l (2 : Int) (readF l (2 : Int) a bad).2.1 (readF l (2 : Int) a bad).2.2).2.1 (readF l (2 : Int) (readF l (2 : Int) a bad).2.1 (readF l (2 : Int) a bad).2.2).2.2).1 (3 : Int)), (bits Go.BinOp.and .i64 (Int.fdiv (readF l (1 : Int) (readF l (2 : Int) (readF l (2 : Int) a bad).2.1 (readF l (2 : Int) a bad).2.2).2.1 (readF l (2 : Int) (readF l (2 : Int) a bad).2.1 (readF l (2 : Int) a bad).2.2).2.2).1 ((2 : Int) ^ (Min.min (Int.toNat (2 : Int)) (Go.IntKind.bits .i64)))) (3 : Int)), (bits Go.BinOp.and .i64 (Int.fdiv (readF l (1 : Int) (readF l (2 : Int) (readF l (2 : Int) a bad).2.1 (readF l (2 : Int) a bad).2.2).2.1 (readF l (2 : Int) (readF l (2 : Int) a bad).2.1 (readF l (2 : Int) a bad).2.2).2.2).1 ((2 : Int) ^ (Min.min (Int.toNat (4 : Int)) (Go.IntKind.bits .i64)))) (3 : Int)), ((bits Go.BinOp.and .i64 (readF l (1 : Int) (readF l (2 : Int) (readF l (2 : Int) a bad).2.1 (readF l (2 : Int) a bad).2.2).2.1 (readF l (2 : Int) (readF l (2 : Int) a bad).2.1 (readF l (2 : Int) a bad).2.2).2.2).1 (64 : Int)) != (0 : Int)), [], l, (readF l (1 : Int) (readF l (2 : Int) (readF l (2 : Int) a bad).2.1 (readF l (2 : Int) a bad).2.2).2.1 (readF l (2 : Int) (readF l (2 : Int) a bad).2.1 (readF l (2 : Int) a bad).2.2).2.2).2.1, (readF l (1 : Int) (readF l (2 : Int) (readF l (2 : Int) a bad).2.1 (readF l (2 : Int) a bad).2.2).2.1 (readF l (2 : Int) (readF l (2 : Int) a bad).2.1 (readF l (2 : Int) a bad).2.2).2.2).2.2) else some ((readF l (2 : Int) a bad).1, (readF l (2 : Int) (readF l (2 : Int) a bad).2.1 (readF l (2 : Int) a bad).2.2).1, (bits Go.BinOp.and .i64 (readF l (1 : Int) (readF l (2 : Int) (readF l (2 : Int) a bad).2.1 (readF l (2 : Int) a bad).2.2).2.1 (readF l (2 : Int) (readF l (2 : Int) a bad).2.1 (readF l (2 : Int) a bad).2.2).2.2).1 (3 : Int)), (bits Go.BinOp.and .i64 (Int.fdiv (readF l (1 : Int) (readF l (2 : Int) (readF l (2 : Int) a bad).2.1 (readF l (2 : Int) a bad).2.2).2.1 (readF l (2 : Int) (readF l (2 : Int) a bad).2.1 (readF l (2 : Int) a bad).2.2).2.2).1 ((2 : Int) ^ (Min.min (Int.toNat (2 : Int)) (Go.IntKind.bits .i64)))) (3 : Int)), (bits Go.BinOp.and .i64 (Int.fdiv (readF l (1 : Int) (readF l (2 : Int) (readF l (2 : Int) a bad).2.1 (readF l (2 : Int) a bad).2.2).2.1 (readF l (2 : Int) (readF l (2 : Int) a bad).2.1 (readF l (2 : Int) a bad).2.2).2.2).1 ((2 : Int) ^ (Min.min (Int.toNat (4 : Int)) (Go.IntKind.bits .i64)))) (3 : Int)), ((bits Go.BinOp.and .i64 (readF l (1 : Int) (readF l (2 : Int) (readF l (2 : Int) a bad).2.1 (readF l (2 : Int) a bad).2.2).2.1 (readF l (2 : Int) (readF l (2 : Int) a bad).2.1 (readF l (2 : Int) a bad).2.2).2.2).1 (64 : Int)) != (0 : Int)), [], l, (readF l (1 : Int) (readF l (2 : Int) (readF l (2 : Int) a bad).2.1 (readF l (2 : Int) a bad).2.2).2.1 (readF l (2 : Int) (readF l (2 : Int) a bad).2.1 (readF l (2 : Int) a bad).2.2).2.2).2.1, (readF l (1 : Int) (readF l (2 : Int) (readF l (2 : Int) a bad).2.1 (readF l (2 : Int) a bad).2.2).2.1 (readF l (2 : Int) (readF l (2 : Int) a bad).2.1 (readF l (2 : Int) a bad).2.2).2.2).2.2)) else none) else none) else none)
noncomputable def One1.f (fuel : Nat) (l : List Int) (a : Int) (bad : Bool) : Option (Int × Int × Int × Int × Int × Bool × (List (Int × (List Int))) × (List Int) × Int × Bool) := One1.b l a bad
theorem One1.eq (fuel : Nat) (l : List Int) (a : Int) (bad : Bool) : (denF One1_E loopN fuel Try.f58 [.dat (.pair (.int .i64) (.pair (.int .i64) (.pair (.int .i64) (.pair (.pair (.int .i64) (.int .i64)) (.pair .bool (.sl (.pair (.int .i64) (.sl (.int .u8))))))))) true] [.fn (.func 55) [.ptr 0 0] []] [.box [.d (.sl (.int .u8)) l, .d (.int .i64) a, .d .bool bad]] One1.k) = One1.f fuel l a bad := by
  kernel_rfl


end Go.Proofs.Ytlmljpmohljefaa

set_option linter.unusedVariables false
set_option linter.unusedSimpArgs false
namespace Go.Proofs.Ytlmljpmohljefaa
open Go.Den
theorem SAll.pure : SAll.f 9 () = some allF := by kernel_rfl
theorem SOf.flat (c : Int) : SOf.f 9 c = (if (codeF 1 1 == c) = true then some (1, 1, true) else if (codeF 1 2 == c) = true then some (1, 2, true) else if (codeF 1 3 == c) = true then some (1, 3, true) else
  if (codeF 2 2 == c) = true then some (2, 2, true) else if (codeF 2 3 == c) = true then some (2, 3, true) else if (codeF 3 3 == c) = true then some (3, 3, true) else some (0, 0, false)) := by kernel_rfl
theorem SOf.pure (c : Int) : SOf.f 9 c = some ((ofGo allF c).1, (ofGo allF c).2.1, (ofGo allF c).2.2) := by
  rw [SOf.flat]
  unfold allF ofGo ofGo ofGo ofGo ofGo ofGo ofGo
  repeat' split
  all_goals rfl
theorem inB_iff (l : List Int) : inB l = true ↔ l.length < 1099511600000 ∧ ∀ c ∈ l, 0 ≤ c ∧ c ≤ 255 := by
  unfold inB
  rw [Bool.and_eq_true, roomy_iff]
  simp [List.all_eq_true]
theorem atOk_iff (l : List Int) (a : Int) : atOk l a = true ↔ inB l = true ∧ 0 ≤ a ∧ a ≤ (l.length : Int) := by
  unfold atOk
  simp only [Bool.and_eq_true, decide_eq_true_eq]
theorem ORead.pure (l : List Int) (hl : inB l = true) : ORead.f 0 l = some (l, 0, false) := by
  have hr' := ((inB_iff l).1 hl).1
  unfold ORead.f ORead.b
  rw [if_pos (by refine ⟨by omega, by omega, by omega, by omega⟩), if_pos (by simp)]
  simp
theorem OStep.pure (n : Int) (l : List Int) (a : Int) (bad : Bool) (hl : atOk l a = true) : OStep.f 0 n l a bad = some ((stepF l n a bad).1, (stepF l n a bad).2.1, l, (stepF l n a bad).2.2.1, (stepF l n a bad).2.2.2) := by
  obtain ⟨h1, h2, h3⟩ := (atOk_iff l a).1 hl
  have h4 := ((inB_iff l).1 h1).1
  unfold OStep.f OStep.b stepF
  cases bad
  · simp only [Bool.false_eq_true, if_false]
    by_cases c1 : n < 0
    · simp [c1]
    · rw [wrap_small ((l.length : Int) - a) (by omega) (by omega)]
      by_cases c2 : n > (l.length : Int) - a
      · simp [c1, c2]
      · rw [wrap_small (a + n) (by omega) (by omega)]
        rw [if_neg (by simpa using c1), if_neg (by simpa using c2), if_pos ⟨h2, by omega, by omega⟩, if_neg (by simp [c1]; omega)]
        rfl
  · rfl
theorem RBad.pure (l : List Int) (a : Int) (bad : Bool) : RBad.f 0 l a bad = some (bad, l, a, bad) := rfl
theorem RLeft.pure (l : List Int) (a : Int) (bad : Bool) (hl : atOk l a = true) : RLeft.f 0 l a bad = some (leftF l a bad, l, a, bad) := by
  obtain ⟨h1, h2, h3⟩ := (atOk_iff l a).1 hl
  have h4 := ((inB_iff l).1 h1).1
  unfold RLeft.f RLeft.b leftF
  rw [wrap_small _ (by omega) (by omega)]
  cases bad <;> rfl
theorem RDone.pure (l : List Int) (a : Int) (bad : Bool) (hl : atOk l a = true) : RDone.f 0 l a bad = some (!bad && (leftF l a bad == 0), l, a, bad) := by
  unfold RDone.f RDone.b
  rw [hl]
  cases bad <;> rfl
theorem or8 (x c : Int) (h0 : 0 ≤ x) (h1 : x < 281474976710656) (c0 : 0 ≤ c) (c1 : c ≤ 255) : bits Go.BinOp.or .i64 (Go.IntKind.wrap .i64 (x * ((2 : Int) ^ (Min.min (Int.toNat (8 : Int)) (Go.IntKind.bits .i64))))) (Go.IntKind.wrap .i64 c) = x * 256 + c := by
  have hp : ((2 : Int) ^ (Min.min (Int.toNat (8 : Int)) (Go.IntKind.bits .i64))) = 256 := rfl
  rw [hp, wrap_small (x * 256) (by omega) (by omega), wrap_small c (by omega) (by omega)]
  obtain ⟨X, rfl⟩ := Int.eq_ofNat_of_zero_le h0
  obtain ⟨C, rfl⟩ := Int.eq_ofNat_of_zero_le c0
  unfold bits
  dsimp only
  have e1 : ((X : Int) * 256) = ((X * 256 : Nat) : Int) := by omega
  rw [e1]
  have b64 : Go.IntKind.bits .i64 = 64 := rfl
  have t1 : (BitVec.ofInt (Go.IntKind.bits .i64) ((X * 256 : Nat) : Int)).toNat = X * 256 := by
    rw [b64, BitVec.ofInt_natCast, BitVec.toNat_ofNat, Nat.mod_eq_of_lt (by omega)]
  have t2 : (BitVec.ofInt (Go.IntKind.bits .i64) (C : Int)).toNat = C := by
    rw [b64, BitVec.ofInt_natCast, BitVec.toNat_ofNat, Nat.mod_eq_of_lt (by omega)]
  rw [BitVec.toNat_or, t1, t2]
  have t3 : X * 256 ||| C = X * 256 + C := by
    have := Nat.shiftLeft_add_eq_or_of_lt (a := X) (b := C) (i := 8) (by omega)
    rw [Nat.shiftLeft_eq] at this
    exact this.symm
  rw [t3, wrap_small _ (by omega) (by omega)]
  omega
theorem RNum.loop (fuel : Nat) (n : Int) (l : List Int) (a0 : Int) (bad0 : Bool) (p : List Int) (hp : p.length ≤ 7) (hb : ∀ c ∈ p, 0 ≤ c ∧ c ≤ 255) (a : Int) (bad : Bool) : ∀ (k i : Nat) (v : Int), i ≤ p.length → p.length - i < k → 0 ≤ v → v < 256 ^ i →
    RNum.l8 fuel n l a0 bad0 k v p (p.length : Int) (i : Int) a bad = some ((p.drop i).foldl (fun v c => v * 256 + c) v, l, a, bad) := by
  intro k
  induction k with
  | zero => intro i v h1 h2; omega
  | succ k ih =>
    intro i v h1 h2 h3 h4
    rw [RNum.l8]
    unfold RNum.b8
    by_cases hi : i < p.length
    · rw [if_pos (by simp; omega), idx_at, List.getElem?_eq_getElem hi]
      dsimp only
      obtain ⟨b1, b2⟩ := hb p[i] (List.getElem_mem hi)
      have hv : v < 281474976710656 := by
        have : i = 0 ∨ i = 1 ∨ i = 2 ∨ i = 3 ∨ i = 4 ∨ i = 5 ∨ i = 6 := by omega
        rcases this with rfl | rfl | rfl | rfl | rfl | rfl | rfl <;> simp at h4 <;> omega
      rw [or8 v _ h3 hv b1 b2, wrap_small _ (by omega) (by omega), List.drop_eq_getElem_cons hi]
      rw [show ((i : Int) + 1) = ((i + 1 : Nat) : Int) from by omega]
      exact ih (i + 1) _ (by omega) (by omega) (by omega) (by rw [Int.pow_succ]; generalize (256 : Int) ^ i = M at h4 ⊢; omega)
    · rw [if_neg (by simp; omega), List.drop_of_length_le (by omega)]
      rfl
theorem seg_length (l : List Int) (a n : Int) (h2 : 0 ≤ a) (h0 : 0 ≤ n) (h3 : n ≤ (l.length : Int) - a) : (seg l a n).length = n.toNat := by
  unfold seg
  simp
  omega
theorem seg_mem {l : List Int} {a n c : Int} (h : c ∈ seg l a n) : c ∈ l := List.mem_of_mem_take (List.mem_of_mem_drop h)
theorem stepF_neg (l : List Int) (a : Int) (bad : Bool) : stepF l (-1) a bad = ([], false, a, true) := by
  unfold stepF
  cases bad
  · simp
  · rfl
theorem RNum.pure (n : Int) (l : List Int) (a : Int) (bad : Bool) (hl : atOk l a = true) : RNum.f 9 n l a bad = some ((readF l n a bad).1, l, (readF l n a bad).2.1, (readF l n a bad).2.2) := by
  obtain ⟨h1, h2, h3⟩ := (atOk_iff l a).1 hl
  obtain ⟨h4, h5⟩ := (inB_iff l).1 h1
  unfold RNum.f RNum.b readF
  rw [hl, stepF_neg]
  by_cases c1 : n < 1
  · simp [c1, stepF_neg]
  · by_cases c2 : n > 7
    · simp [c1, c2, stepF_neg]
    · simp only [c1, c2, decide_false, Bool.or_self, Bool.false_eq_true, if_false, if_true]
      cases hs : (stepF l n a bad).2.1
      · simp
      · simp only [Bool.not_true, Bool.false_eq_true, if_false, if_true]
        have hp : (stepF l n a bad).1 = seg l a n ∧ n ≤ (l.length : Int) - a := by
          unfold stepF at hs ⊢
          split at hs
          · cases hs
          · split at hs
            · cases hs
            · rename_i k1 k2
              rw [if_neg k1, if_neg k2]
              simp only [Bool.or_eq_true, decide_eq_true_eq, not_or] at k2
              exact ⟨rfl, by omega⟩
        rw [hp.1]
        have := RNum.loop 9 n l a bad (seg l a n) (by rw [seg_length l a n h2 (by omega) hp.2]; omega) (fun c hc => h5 c (seg_mem hc)) (stepF l n a bad).2.2.1 (stepF l n a bad).2.2.2 9 0 0 (by omega) (by rw [seg_length l a n h2 (by omega) hp.2]; omega) (by omega) (by simp)
        exact this
theorem readF_at (l : List Int) (n a : Int) (bad : Bool) (hl : atOk l a = true) : atOk l (readF l n a bad).2.1 = true := by
  obtain ⟨h1, h2, h3⟩ := (atOk_iff l a).1 hl
  refine (atOk_iff _ _).2 ⟨h1, ?_⟩
  have key : ∀ m, 0 ≤ (stepF l m a bad).2.2.1 ∧ (stepF l m a bad).2.2.1 ≤ (l.length : Int) := by
    intro m
    unfold stepF
    cases bad
    · rw [if_neg (by simp)]
      split
      · exact ⟨h2, h3⟩
      · rename_i k2
        simp only [Bool.or_eq_true, decide_eq_true_eq, not_or] at k2
        dsimp only
        omega
    · exact ⟨h2, h3⟩
  exact key _
theorem readF_byte (l : List Int) (a : Int) (bad : Bool) (hl : atOk l a = true) : 0 ≤ (readF l 1 a bad).1 ∧ (readF l 1 a bad).1 ≤ 255 := by
  obtain ⟨h1, h2, h3⟩ := (atOk_iff l a).1 hl
  obtain ⟨h4, h5⟩ := (inB_iff l).1 h1
  unfold readF
  have hn : (if (decide ((1 : Int) < 1) || decide ((1 : Int) > 7)) = true then (-1 : Int) else 1) = 1 := by decide
  dsimp only
  rw [hn]
  split
  · rename_i hs
    unfold stepF at hs ⊢
    split at hs
    · cases hs
    · split at hs
      · cases hs
      · rename_i k1 k2
        rw [if_neg k1, if_neg k2]
        simp only [Bool.or_eq_true, decide_eq_true_eq, not_or] at k2
        have hlen := seg_length l a 1 h2 (by omega) (by omega)
        have : ∃ c, seg l a 1 = [c] := by
          match hh : seg l a 1, hlen with
          | [c], _ => exact ⟨c, rfl⟩
        obtain ⟨c, hc⟩ := this
        have := h5 c (seg_mem (a := a) (n := 1) (by rw [hc]; simp))
        dsimp only
        rw [hc]
        simp [numB]
        omega
  · omega
def bitsTab : Bool := (List.range 256).all fun v => bits Go.BinOp.and .i64 (v : Int) 3 == (v : Int) % 4 && bits Go.BinOp.and .i64 (Int.fdiv (v : Int) 4) 3 == (v : Int) / 4 % 4 && bits Go.BinOp.and .i64 (Int.fdiv (v : Int) 16) 3 == (v : Int) / 16 % 4 && ((bits Go.BinOp.and .i64 (v : Int) 64 != 0) == ((v : Int) / 64 % 2 == 1))
theorem bits_tab : bitsTab = true := by kernel_rfl
theorem bits_of (v : Int) (h0 : 0 ≤ v) (h1 : v ≤ 255) : bits Go.BinOp.and .i64 v 3 = v % 4 ∧ bits Go.BinOp.and .i64 (Int.fdiv v 4) 3 = v / 4 % 4 ∧ bits Go.BinOp.and .i64 (Int.fdiv v 16) 3 = v / 16 % 4 ∧ (bits Go.BinOp.and .i64 v 64 != 0) = (v / 64 % 2 == 1) := by
  have := bits_tab
  unfold bitsTab at this
  have h := List.all_eq_true.1 this v.toNat (List.mem_range.2 (by omega))
  rw [Int.toNat_of_nonneg h0] at h
  simp only [Bool.and_eq_true, beq_iff_eq] at h
  exact ⟨h.1.1.1, h.1.1.2, h.1.2, h.2⟩
theorem One1.pure (l : List Int) (a : Int) (bad : Bool) (hl : atOk l a = true) : One1.f 0 l a bad = some ((oneF l a bad).1.1, (oneF l a bad).1.2.1, (oneF l a bad).1.2.2.1, (oneF l a bad).1.2.2.2.1.1, (oneF l a bad).1.2.2.2.1.2, (oneF l a bad).1.2.2.2.2.1, [], l, (oneF l a bad).2.1, (oneF l a bad).2.2) := by
  unfold One1.f One1.b oneF
  have h2 := readF_at l 2 a bad hl
  have h3 := readF_at l 2 _ (readF l 2 a bad).2.2 h2
  have hb := readF_byte l _ (readF l 2 (readF l 2 a bad).2.1 (readF l 2 a bad).2.2).2.2 h3
  rw [if_pos hl, if_pos h2, if_pos h3]
  obtain ⟨e1, e2, e3, e4⟩ := bits_of _ hb.1 hb.2
  have p1 : ((2 : Int) ^ (Min.min (Int.toNat (2 : Int)) (Go.IntKind.bits .i64))) = 4 := rfl
  have p2 : ((2 : Int) ^ (Min.min (Int.toNat (4 : Int)) (Go.IntKind.bits .i64))) = 16 := rfl
  rw [p1, p2, e1, e2, e3, e4]
  dsimp only
  split <;> rfl
end Go.Proofs.Ytlmljpmohljefaa

set_option linter.unusedVariables false
namespace Go.Proofs.Ytlmljpmohljefaa
open Go.Den
theorem s_all_det : SumDet s_all := fun avs objs R κ => by
  show s_all.run avs objs (two κ) = (s_all.run avs objs (two some)).bind κ
  unfold s_all
  simp only
  split
  · first | rfl | (split <;> rfl)
  · rfl
theorem s_all_ok : SumOk Try.prog 88 s_all := by
  have hE : EnvOk Try.prog SAll_E := env_ok (l := []) th_ok any_ok trivial _
  refine sum_ok hE Try.func88 rfl (by kernel_rfl) s_all [.own 23 (.pair (.int .i64) (.int .i64))] SAll.k ?_
  intro R avs objs κ r h
  unfold s_all at h
  simp only at h
  split at h
  · skip
    refine ⟨9, _, _, _, (SAll.eq (9) ()).trans (SAll.pure), ?_, h⟩
    intro rs ros hk
    unfold SAll.k at hk
    split at hk
    · first | (cases hk; exact ⟨rfl, rfl⟩) | (have e := Option.some.inj hk; rw [← e]; exact ⟨rfl, rfl⟩)
    · cases hk
  · cases h
theorem s_sof_det : SumDet s_sof := fun avs objs R κ => by
  show s_sof.run avs objs (two κ) = (s_sof.run avs objs (two some)).bind κ
  unfold s_sof
  simp only
  split
  · first | rfl | (split <;> rfl)
  · rfl
theorem s_sof_ok : SumOk Try.prog 56 s_sof := by
  have hE : EnvOk Try.prog SOf_E := env_ok (l := [(88, s_all), (44, s_code)]) th_ok any_ok ⟨⟨s_all_ok, s_all_det⟩, ⟨s_code_ok, s_code_det⟩, trivial⟩ _
  refine sum_ok hE Try.func56 rfl (by kernel_rfl) s_sof [.dat (.pair (.int .i64) (.int .i64)) true, .raw] SOf.k ?_
  intro R avs objs κ r h
  unfold s_sof at h
  simp only at h
  split at h
  · rename_i c
    refine ⟨9, _, _, _, (SOf.eq (9) c).trans (SOf.pure c), ?_, h⟩
    intro rs ros hk
    unfold SOf.k at hk
    split at hk
    · first | (cases hk; exact ⟨rfl, rfl⟩) | (have e := Option.some.inj hk; rw [← e]; exact ⟨rfl, rfl⟩)
    · cases hk
  · cases h
theorem s_read_det : SumDet s_read := fun avs objs R κ => by
  show s_read.run avs objs (two κ) = (s_read.run avs objs (two some)).bind κ
  unfold s_read
  simp only
  split
  · first | rfl | (split <;> rfl)
  · rfl
theorem s_read_ok : SumOk Try.prog 54 s_read := by
  have hE : EnvOk Try.prog ORead_E := env_ok (l := []) th_ok any_ok trivial _
  refine sum_ok hE Try.func54 rfl (by kernel_rfl) s_read [.fz] ORead.k ?_
  intro R avs objs κ r h
  unfold s_read at h
  simp only at h
  split at h
  · rename_i l
    split at h
    case isFalse => cases h
    rename_i hl
    refine ⟨0, _, _, _, (ORead.eq (0) l).trans (ORead.pure l hl), ?_, h⟩
    intro rs ros hk
    unfold ORead.k at hk
    split at hk
    · first | (cases hk; exact ⟨rfl, rfl⟩) | (have e := Option.some.inj hk; rw [← e]; exact ⟨rfl, rfl⟩)
    · cases hk
  · cases h
theorem s_step_det : SumDet s_step := fun avs objs R κ => by
  show s_step.run avs objs (two κ) = (s_step.run avs objs (two some)).bind κ
  unfold s_step
  simp only
  split
  · first | rfl | (split <;> rfl)
  · rfl
theorem s_step_ok : SumOk Try.prog 87 s_step := by
  have hE : EnvOk Try.prog OStep_E := env_ok (l := []) th_ok any_ok trivial _
  refine sum_ok hE Try.func87 rfl (by kernel_rfl) s_step [.dat (.sl (.int .u8)) false, .raw] OStep.k ?_
  intro R avs objs κ r h
  unfold s_step at h
  simp only at h
  split at h
  · rename_i n l a bad
    split at h
    case isFalse => cases h
    rename_i hl
    refine ⟨0, _, _, _, (OStep.eq (0) n l a bad).trans (OStep.pure n l a bad hl), ?_, h⟩
    intro rs ros hk
    unfold OStep.k at hk
    split at hk
    · first | (cases hk; exact ⟨rfl, rfl⟩) | (have e := Option.some.inj hk; rw [← e]; exact ⟨rfl, rfl⟩)
    · cases hk
  · cases h
theorem s_rnum_det : SumDet s_rnum := fun avs objs R κ => by
  show s_rnum.run avs objs (two κ) = (s_rnum.run avs objs (two some)).bind κ
  unfold s_rnum
  simp only
  split
  · first | rfl | (split <;> rfl)
  · rfl
theorem s_rnum_ok : SumOk Try.prog 55 s_rnum := by
  have hE : EnvOk Try.prog RNum_E := env_ok (l := [(87, s_step)]) th_ok any_ok ⟨⟨s_step_ok, s_step_det⟩, trivial⟩ _
  refine sum_ok hE Try.func55 rfl (by kernel_rfl) s_rnum [.raw] RNum.k ?_
  intro R avs objs κ r h
  unfold s_rnum at h
  simp only at h
  split at h
  · rename_i n l a bad
    split at h
    case isFalse => cases h
    rename_i hl
    refine ⟨9, _, _, _, (RNum.eq (9) n l a bad).trans (RNum.pure n l a bad hl), ?_, h⟩
    intro rs ros hk
    unfold RNum.k at hk
    split at hk
    · first | (cases hk; exact ⟨rfl, rfl⟩) | (have e := Option.some.inj hk; rw [← e]; exact ⟨rfl, rfl⟩)
    · cases hk
  · cases h
theorem s_bad_det : SumDet s_bad := fun avs objs R κ => by
  show s_bad.run avs objs (two κ) = (s_bad.run avs objs (two some)).bind κ
  unfold s_bad
  simp only
  split
  · first | rfl | (split <;> rfl)
  · rfl
theorem s_bad_ok : SumOk Try.prog 57 s_bad := by
  have hE : EnvOk Try.prog RBad_E := env_ok (l := []) th_ok any_ok trivial _
  refine sum_ok hE Try.func57 rfl (by kernel_rfl) s_bad [.raw] RBad.k ?_
  intro R avs objs κ r h
  unfold s_bad at h
  simp only at h
  split at h
  · rename_i l a bad
    refine ⟨0, _, _, _, (RBad.eq (0) l a bad).trans (RBad.pure l a bad), ?_, h⟩
    intro rs ros hk
    unfold RBad.k at hk
    split at hk
    · first | (cases hk; exact ⟨rfl, rfl⟩) | (have e := Option.some.inj hk; rw [← e]; exact ⟨rfl, rfl⟩)
    · cases hk
  · cases h
theorem s_left_det : SumDet s_left := fun avs objs R κ => by
  show s_left.run avs objs (two κ) = (s_left.run avs objs (two some)).bind κ
  unfold s_left
  simp only
  split
  · first | rfl | (split <;> rfl)
  · rfl
theorem s_left_ok : SumOk Try.prog 89 s_left := by
  have hE : EnvOk Try.prog RLeft_E := env_ok (l := [(57, s_bad)]) th_ok any_ok ⟨⟨s_bad_ok, s_bad_det⟩, trivial⟩ _
  refine sum_ok hE Try.func89 rfl (by kernel_rfl) s_left [.raw] RLeft.k ?_
  intro R avs objs κ r h
  unfold s_left at h
  simp only at h
  split at h
  · rename_i l a bad
    split at h
    case isFalse => cases h
    rename_i hl
    refine ⟨0, _, _, _, (RLeft.eq (0) l a bad).trans (RLeft.pure l a bad hl), ?_, h⟩
    intro rs ros hk
    unfold RLeft.k at hk
    split at hk
    · first | (cases hk; exact ⟨rfl, rfl⟩) | (have e := Option.some.inj hk; rw [← e]; exact ⟨rfl, rfl⟩)
    · cases hk
  · cases h
theorem s_done_det : SumDet s_done := fun avs objs R κ => by
  show s_done.run avs objs (two κ) = (s_done.run avs objs (two some)).bind κ
  unfold s_done
  simp only
  split
  · first | rfl | (split <;> rfl)
  · rfl
theorem s_done_ok : SumOk Try.prog 59 s_done := by
  have hE : EnvOk Try.prog RDone_E := env_ok (l := [(57, s_bad), (89, s_left)]) th_ok any_ok ⟨⟨s_bad_ok, s_bad_det⟩, ⟨s_left_ok, s_left_det⟩, trivial⟩ _
  refine sum_ok hE Try.func59 rfl (by kernel_rfl) s_done [.raw] RDone.k ?_
  intro R avs objs κ r h
  unfold s_done at h
  simp only at h
  split at h
  · rename_i l a bad
    split at h
    case isFalse => cases h
    rename_i hl
    refine ⟨0, _, _, _, (RDone.eq (0) l a bad).trans (RDone.pure l a bad hl), ?_, h⟩
    intro rs ros hk
    unfold RDone.k at hk
    split at hk
    · first | (cases hk; exact ⟨rfl, rfl⟩) | (have e := Option.some.inj hk; rw [← e]; exact ⟨rfl, rfl⟩)
    · cases hk
  · cases h
theorem s_one_det : SumDet s_one := fun avs objs R κ => by
  show s_one.run avs objs (two κ) = (s_one.run avs objs (two some)).bind κ
  unfold s_one
  simp only
  split
  · first | rfl | (split <;> rfl)
  · rfl
theorem s_one_ok : SumOk Try.prog 58 s_one := by
  have hE : EnvOk Try.prog One1_E := env_ok (l := [(55, s_rnum)]) th_ok any_ok ⟨⟨s_rnum_ok, s_rnum_det⟩, trivial⟩ _
  refine sum_ok hE Try.func58 rfl (by kernel_rfl) s_one [.dat (.pair (.int .i64) (.pair (.int .i64) (.pair (.int .i64) (.pair (.pair (.int .i64) (.int .i64)) (.pair .bool (.sl (.pair (.int .i64) (.sl (.int .u8))))))))) true] One1.k ?_
  intro R avs objs κ r h
  unfold s_one at h
  simp only at h
  split at h
  · rename_i l a bad
    split at h
    case isFalse => cases h
    rename_i hl
    refine ⟨0, _, _, _, (One1.eq (0) l a bad).trans (One1.pure l a bad hl), ?_, h⟩
    intro rs ros hk
    unfold One1.k at hk
    split at hk
    · first | (cases hk; exact ⟨rfl, rfl⟩) | (have e := Option.some.inj hk; rw [← e]; exact ⟨rfl, rfl⟩)
    · cases hk
  · cases h
end Go.Proofs.Ytlmljpmohljefaa

/- printed by denfn.py -/
set_option linter.unusedVariables false
namespace Go.Proofs.Ytlmljpmohljefaa
open Go.Den
noncomputable def s_rnumb : Den.Sum := ⟨[.raw, .raw], fun args objs κ => match args, objs with
  | [.ptr 0 0, .d (.int .i64) n], [.box [.d (.sl (.int .u8)) l, .d (.int .i64) a, .d .bool bad]] => if atOk l a = true then (match veil (some (readF l n a bad)) with | none => none | some y => κ [.d (.int .i64) y.1] [.box [.d (.sl (.int .u8)) l, .d (.int .i64) y.2.1, .d .bool y.2.2]]) else none
  | _, _ => none⟩
noncomputable def s_oneb : Den.Sum := ⟨[.raw], fun args objs κ => match args, objs with
  | [.fn (.func 55) [.ptr 0 0] []], [.box [.d (.sl (.int .u8)) l, .d (.int .i64) a, .d .bool bad]] => if atOk l a = true then (match veil (some (oneF l a bad)) with | none => none | some y => κ [.agg [.d (.int .i64) y.1.1, .d (.int .i64) y.1.2.1, .d (.int .i64) y.1.2.2.1, .d (.int .i64) y.1.2.2.2.1.1, .d (.int .i64) y.1.2.2.2.1.2, .d .bool y.1.2.2.2.2.1, .d (.sl (.pair (.int .i64) (.sl (.int .u8)))) []]] [.box [.d (.sl (.int .u8)) l, .d (.int .i64) y.2.1, .d .bool y.2.2]]) else none
  | _, _ => none⟩
noncomputable def s_sofb : Den.Sum := ⟨[.raw], fun args objs κ => match args, objs with
  | [.d (.int .i64) c], [] => match veil (some (ofGo allF c)) with | none => none | some y => κ [.agg [.d (.int .i64) y.1, .d (.int .i64) y.2.1], .d .bool y.2.2] []
  | _, _ => none⟩
theorem s_rnumb_det : SumDet s_rnumb := fun avs objs R κ => by
  show s_rnumb.run avs objs (two κ) = (s_rnumb.run avs objs (two some)).bind κ
  unfold s_rnumb
  simp only [veil_eq]
  split
  · first | rfl | (split <;> rfl)
  · rfl
theorem s_rnumb_ok : SumOk Try.prog 55 s_rnumb := ⟨s_rnum_ok.1, fun avs objs κ r hr => s_rnum_ok.2 avs objs κ r (by
  unfold s_rnumb at hr
  simp only [veil_eq] at hr
  split at hr
  · exact hr
  · cases hr)⟩
theorem s_oneb_det : SumDet s_oneb := fun avs objs R κ => by
  show s_oneb.run avs objs (two κ) = (s_oneb.run avs objs (two some)).bind κ
  unfold s_oneb
  simp only [veil_eq]
  split
  · first | rfl | (split <;> rfl)
  · rfl
theorem s_oneb_ok : SumOk Try.prog 58 s_oneb := ⟨s_one_ok.1, fun avs objs κ r hr => s_one_ok.2 avs objs κ r (by
  unfold s_oneb at hr
  simp only [veil_eq] at hr
  split at hr
  · exact hr
  · cases hr)⟩
theorem s_sofb_det : SumDet s_sofb := fun avs objs R κ => by
  show s_sofb.run avs objs (two κ) = (s_sofb.run avs objs (two some)).bind κ
  unfold s_sofb
  simp only [veil_eq]
  split
  · first | rfl | (split <;> rfl)
  · rfl
theorem s_sofb_ok : SumOk Try.prog 56 s_sofb := ⟨s_sof_ok.1, fun avs objs κ r hr => s_sof_ok.2 avs objs κ r (by
  unfold s_sofb at hr
  simp only [veil_eq] at hr
  split at hr
  · exact hr
  · cases hr)⟩
noncomputable def Decode1_E : Env := ⟨th, gam [(54, s_read), (56, s_sofb), (58, s_oneb), (18, s_fits1), (55, s_rnumb), (57, s_bad), (59, s_done)], fun i => if i = 13 then ⟨[2, 4, 5, 6, 8, 9, 10], [(1394, 50, (.pair (.int .i64) (.pair (.int .i64) (.pair (.int .i64) (.pair (.pair (.int .i64) (.int .i64)) (.pair .bool (.sl (.pair (.int .i64) (.sl (.int .u8))))))))))], []⟩ else ⟨[], [], []⟩⟩
noncomputable def Decode1.k (rs : List AV) (os : List Den.Obj) : Option (Int × Int × Int × Int × Int × Int × Int × Int × Int × Int × (List (Int × (Int × (Int × ((Int × Int) × (Bool × (List (Int × (List Int))))))))) × Int) :=
  match rs, os with
  | [.agg [.d (.int .i64) r0, .d (.int .i64) r1, .d (.int .i64) r2, .d (.int .i64) r3, .d (.int .i64) r4, .d (.int .i64) r5, .d (.int .i64) r6, .d (.int .i64) r7, .d (.int .i64) r8, .d (.int .i64) r9, .d (.sl (.pair (.int .i64) (.pair (.int .i64) (.pair (.int .i64) (.pair (.pair (.int .i64) (.int .i64)) (.pair .bool (.sl (.pair (.int .i64) (.sl (.int .u8)))))))))) r10], .d (.int .i64) r11], [] => some (r0, r1, r2, r3, r4, r5, r6, r7, r8, r9, r10, r11)
  | _, _ => none
noncomputable def Decode1.s13 (l : List Int) (x8 : Bool) (x9 : Int) (x10 : Int) (x11 : Int) (x12 : Bool) (x13 : Int) (x14 : Int) (x15 : Int) (x16 : Int) (x17 : Int) (x18 : Int) (x19 : Int) (x20 : (List (Int × (Int × (Int × ((Int × Int) × (Bool × (List (Int × (List Int)))))))))) : St := ⟨[.dead, .dead, .ptr 64 0, .dead, .ptr 65 0, .fn (.func 55) [.ptr 65 0] [], .ptr 66 0, .dead, .d .bool x8, .d (.int .i64) x9, .d (.int .i64) x10, .dead, .dead, .dead, .dead, .dead, .dead, .dead, .dead, .dead, .dead, .dead, .dead, .dead, .dead, .dead, .dead, .dead, .dead, .dead, .dead, .dead, .dead, .dead, .dead, .dead, .dead, .dead, .dead, .dead, .dead, .dead, .dead, .dead, .dead, .dead, .dead, .dead, .dead, .dead, .dead, .dead, .dead, .dead, .dead, .dead, .dead, .dead, .dead, .dead, .dead, .dead, .dead, .dead, .dead, .dead, .dead, .dead, .dead, .dead, .dead], ofL [(64, .box [.d (.int .i64) (0), .d (.int .i64) (0), .d (.int .i64) (0), .d (.int .i64) (0), .d (.int .i64) (0), .d (.int .i64) (0), .d (.int .i64) (0), .d (.int .i64) (0), .d (.int .i64) (0), .d (.int .i64) (0), .nilsl]), (65, .box [.d (.sl (.int .u8)) (l), .d (.int .i64) x11, .d .bool x12]), (66, .box [.d (.int .i64) x13, .d (.int .i64) x14, .d (.int .i64) x15, .d (.int .i64) x16, .d (.int .i64) x17, .d (.int .i64) x18, .d (.int .i64) x19, .d (.int .i64) (0), .d (.int .i64) (0), .d (.int .i64) (0), .row 67]), (67, .row 50 (.pair (.int .i64) (.pair (.int .i64) (.pair (.int .i64) (.pair (.pair (.int .i64) (.int .i64)) (.pair .bool (.sl (.pair (.int .i64) (.sl (.int .u8))))))))) x20 false)], 0⟩
noncomputable def Decode1.b13 (l : List Int) (A13 : Bool → Int → Int → Int → Bool → Int → Int → Int → Int → Int → Int → Int → (List (Int × (Int × (Int × ((Int × Int) × (Bool × (List (Int × (List Int))))))))) → Option (Int × Int × Int × Int × Int × Int × Int × Int × Int × Int × (List (Int × (Int × (Int × ((Int × Int) × (Bool × (List (Int × (List Int))))))))) × Int)) (x8 : Bool) (x9 : Int) (x10 : Int) (x11 : Int) (x12 : Bool) (x13 : Int) (x14 : Int) (x15 : Int) (x16 : Int) (x17 : Int) (x18 : Int) (x19 : Int) (x20 : (List (Int × (Int × (Int × ((Int × Int) × (Bool × (List (Int × (List Int)))))))))) : Option (Int × Int × Int × Int × Int × Int × Int × Int × Int × Int × (List (Int × (Int × (Int × ((Int × Int) × (Bool × (List (Int × (List Int))))))))) × Int) :=
  (if (decide (x10 < x9)) then (if (!x12) then (if (atOk l x11) then (match (veil (Option.some (oneF l x11 x12))) with | none => none | some y21 => (if ((((List.length x20) + (List.length ((y21.1.1, (y21.1.2.1, (y21.1.2.2.1, ((y21.1.2.2.2.1.1, y21.1.2.2.2.1.2), (y21.1.2.2.2.2.1, ([] : List (Int × (List Int)))))))) :: ([] : List (Int × (Int × (Int × ((Int × Int) × (Bool × (List (Int × (List Int)))))))))))) * (72 : Nat)) ≤ lim) then A13 x8 x9 (Go.IntKind.wrap .i64 (x10 + (1 : Int))) y21.2.1 y21.2.2 x13 x14 x15 x16 x17 x18 x19 (x20 ++ ((y21.1.1, (y21.1.2.1, (y21.1.2.2.1, ((y21.1.2.2.2.1.1, y21.1.2.2.2.1.2), (y21.1.2.2.2.2.1, ([] : List (Int × (List Int)))))))) :: ([] : List (Int × (Int × (Int × ((Int × Int) × (Bool × (List (Int × (List Int))))))))))) else none)) else none) else (if (!x8) then some (0, 0, 0, 0, 0, 0, 0, 0, 0, 0, ([] : List (Int × (Int × (Int × ((Int × Int) × (Bool × (List (Int × (List Int))))))))), (4 : Int)) else (if (atOk l x11) then (if (!((!x12) && ((leftF l x11 x12) == (0 : Int)))) then some (0, 0, 0, 0, 0, 0, 0, 0, 0, 0, ([] : List (Int × (Int × (Int × ((Int × Int) × (Bool × (List (Int × (List Int))))))))), (4 : Int)) else (if (smallRecs x20) then (if (!(fits1 x13 x14 x15 x16 x17 x18 x19 0 0 0 x20)) then some (0, 0, 0, 0, 0, 0, 0, 0, 0, 0, ([] : List (Int × (Int × (Int × ((Int × Int) × (Bool × (List (Int × (List Int))))))))), (4 : Int)) else some (x13, x14, x15, x16, x17, x18, x19, 0, 0, 0, x20, (0 : Int))) else none)) else none))) else (if (!x8) then some (0, 0, 0, 0, 0, 0, 0, 0, 0, 0, ([] : List (Int × (Int × (Int × ((Int × Int) × (Bool × (List (Int × (List Int))))))))), (4 : Int)) else (if (atOk l x11) then (if (!((!x12) && ((leftF l x11 x12) == (0 : Int)))) then some (0, 0, 0, 0, 0, 0, 0, 0, 0, 0, ([] : List (Int × (Int × (Int × ((Int × Int) × (Bool × (List (Int × (List Int))))))))), (4 : Int)) else (if (smallRecs x20) then (if (!(fits1 x13 x14 x15 x16 x17 x18 x19 0 0 0 x20)) then some (0, 0, 0, 0, 0, 0, 0, 0, 0, 0, ([] : List (Int × (Int × (Int × ((Int × Int) × (Bool × (List (Int × (List Int))))))))), (4 : Int)) else some (x13, x14, x15, x16, x17, x18, x19, 0, 0, 0, x20, (0 : Int))) else none)) else none)))
noncomputable def Decode1.l13 (fuel : Nat) (l : List Int) : Nat → Bool → Int → Int → Int → Bool → Int → Int → Int → Int → Int → Int → Int → (List (Int × (Int × (Int × ((Int × Int) × (Bool × (List (Int × (List Int))))))))) → Option (Int × Int × Int × Int × Int × Int × Int × Int × Int × Int × (List (Int × (Int × (Int × ((Int × Int) × (Bool × (List (Int × (List Int))))))))) × Int)
  | 0, _, _, _, _, _, _, _, _, _, _, _, _, _ => none
  | k + 1, x8, x9, x10, x11, x12, x13, x14, x15, x16, x17, x18, x19, x20 => Decode1.b13 l (Decode1.l13 fuel l k) x8 x9 x10 x11 x12 x13 x14 x15 x16 x17 x18 x19 x20
noncomputable def Decode1.b (l : List Int) (E13 : Bool → Int → Int → Int → Bool → Int → Int → Int → Int → Int → Int → Int → (List (Int × (Int × (Int × ((Int × Int) × (Bool × (List (Int × (List Int))))))))) → Option (Int × Int × Int × Int × Int × Int × Int × Int × Int × Int × (List (Int × (Int × (Int × ((Int × Int) × (Bool × (List (Int × (List Int))))))))) × Int)) : Option (Int × Int × Int × Int × Int × Int × Int × Int × Int × Int × (List (Int × (Int × (Int × ((Int × Int) × (Bool × (List (Int × (List Int))))))))) × Int) :=
  (if (inB l) then (if (atOk l 0) then (match (veil (Option.some (readF l (1 : Int) 0 false))) with | none => none | some y0 => (if (atOk l y0.2.1) then (match (veil (Option.some (readF l (2 : Int) y0.2.1 y0.2.2))) with | none => none | some y1 => (if (atOk l y1.2.1) then (match (veil (Option.some (readF l (6 : Int) y1.2.1 y1.2.2))) with | none => none | some y2 => (if (atOk l y2.2.1) then (match (veil (Option.some (readF l (1 : Int) y2.2.1 y2.2.2))) with | none => none | some y3 => (match (veil (Option.some (ofGo allF y3.1))) with | none => none | some y4 => (if (atOk l y3.2.1) then (match (veil (Option.some (readF l (2 : Int) y3.2.1 y3.2.2))) with | none => none | some y5 => (if (atOk l y5.2.1) then (match (veil (Option.some (readF l (2 : Int) y5.2.1 y5.2.2))) with | none => none | some y6 => (if (atOk l y6.2.1) then (match (veil (Option.some (readF l (1 : Int) y6.2.1 y6.2.2))) with | none => none | some y7 => E13 y4.2.2 y7.1 (0 : Int) y7.2.1 y7.2.2 y0.1 y1.1 y2.1 y4.1 y4.2.1 y5.1 y6.1 ([] : List (Int × (Int × (Int × ((Int × Int) × (Bool × (List (Int × (List Int)))))))))) else none)) else none)) else none))) else none)) else none)) else none)) else none) else none)
noncomputable def Decode1.f (fuel : Nat) (l : List Int) : Option (Int × Int × Int × Int × Int × Int × Int × Int × Int × Int × (List (Int × (Int × (Int × ((Int × Int) × (Bool × (List (Int × (List Int))))))))) × Int) := Decode1.b l (Decode1.l13 fuel l fuel)
theorem Decode1.l13_eq (fuel : Nat) (l : List Int) : ∀ (k : Nat) (x8 : Bool) (x9 : Int) (x10 : Int) (x11 : Int) (x12 : Bool) (x13 : Int) (x14 : Int) (x15 : Int) (x16 : Int) (x17 : Int) (x18 : Int) (x19 : Int) (x20 : (List (Int × (Int × (Int × ((Int × Int) × (Bool × (List (Int × (List Int)))))))))), lp Decode1_E fuel Try.f22 [.dat (.pair (.int .i64) (.pair (.int .i64) (.pair (.int .i64) (.pair (.pair (.int .i64) (.int .i64)) (.pair (.int .i64) (.pair (.int .i64) (.pair (.int .i64) (.pair (.int .i64) (.pair (.int .i64) (.sl (.pair (.int .i64) (.pair (.int .i64) (.pair (.int .i64) (.pair (.pair (.int .i64) (.int .i64)) (.pair .bool (.sl (.pair (.int .i64) (.sl (.int .u8))))))))))))))))))) true, .raw] 0 Decode1.k 13 [] k (Decode1.s13 l x8 x9 x10 x11 x12 x13 x14 x15 x16 x17 x18 x19 x20) = Decode1.l13 fuel l k x8 x9 x10 x11 x12 x13 x14 x15 x16 x17 x18 x19 x20 := by
  intro k
  induction k with
  | zero => intro x8 x9 x10 x11 x12 x13 x14 x15 x16 x17 x18 x19 x20; rfl
  | succ k ih =>
    intro x8 x9 x10 x11 x12 x13 x14 x15 x16 x17 x18 x19 x20
    have h : lp Decode1_E fuel Try.f22 [.dat (.pair (.int .i64) (.pair (.int .i64) (.pair (.int .i64) (.pair (.pair (.int .i64) (.int .i64)) (.pair (.int .i64) (.pair (.int .i64) (.pair (.int .i64) (.pair (.int .i64) (.pair (.int .i64) (.sl (.pair (.int .i64) (.pair (.int .i64) (.pair (.int .i64) (.pair (.pair (.int .i64) (.int .i64)) (.pair .bool (.sl (.pair (.int .i64) (.sl (.int .u8))))))))))))))))))) true, .raw] 0 Decode1.k 13 [] (k + 1) (Decode1.s13 l x8 x9 x10 x11 x12 x13 x14 x15 x16 x17 x18 x19 x20) = Decode1.b13 l (fun x8 x9 x10 x11 x12 x13 x14 x15 x16 x17 x18 x19 x20 => lp Decode1_E fuel Try.f22 [.dat (.pair (.int .i64) (.pair (.int .i64) (.pair (.int .i64) (.pair (.pair (.int .i64) (.int .i64)) (.pair (.int .i64) (.pair (.int .i64) (.pair (.int .i64) (.pair (.int .i64) (.pair (.int .i64) (.sl (.pair (.int .i64) (.pair (.int .i64) (.pair (.int .i64) (.pair (.pair (.int .i64) (.int .i64)) (.pair .bool (.sl (.pair (.int .i64) (.sl (.int .u8))))))))))))))))))) true, .raw] 0 Decode1.k 13 [] k (Decode1.s13 l x8 x9 x10 x11 x12 x13 x14 x15 x16 x17 x18 x19 x20)) x8 x9 x10 x11 x12 x13 x14 x15 x16 x17 x18 x19 x20 := by kernel_rfl
    rw [h]
    have e13 : (fun x8 x9 x10 x11 x12 x13 x14 x15 x16 x17 x18 x19 x20 => lp Decode1_E fuel Try.f22 [.dat (.pair (.int .i64) (.pair (.int .i64) (.pair (.int .i64) (.pair (.pair (.int .i64) (.int .i64)) (.pair (.int .i64) (.pair (.int .i64) (.pair (.int .i64) (.pair (.int .i64) (.pair (.int .i64) (.sl (.pair (.int .i64) (.pair (.int .i64) (.pair (.int .i64) (.pair (.pair (.int .i64) (.int .i64)) (.pair .bool (.sl (.pair (.int .i64) (.sl (.int .u8))))))))))))))))))) true, .raw] 0 Decode1.k 13 [] k (Decode1.s13 l x8 x9 x10 x11 x12 x13 x14 x15 x16 x17 x18 x19 x20)) = Decode1.l13 fuel l k := (funext fun x8 => (funext fun x9 => (funext fun x10 => (funext fun x11 => (funext fun x12 => (funext fun x13 => (funext fun x14 => (funext fun x15 => (funext fun x16 => (funext fun x17 => (funext fun x18 => (funext fun x19 => (funext fun x20 => ih x8 x9 x10 x11 x12 x13 x14 x15 x16 x17 x18 x19 x20)))))))))))))
    rw [e13]
    rfl
theorem Decode1.eq (fuel : Nat) (l : List Int) : (denF Decode1_E loopN fuel Try.f22 [.dat (.pair (.int .i64) (.pair (.int .i64) (.pair (.int .i64) (.pair (.pair (.int .i64) (.int .i64)) (.pair (.int .i64) (.pair (.int .i64) (.pair (.int .i64) (.pair (.int .i64) (.pair (.int .i64) (.sl (.pair (.int .i64) (.pair (.int .i64) (.pair (.int .i64) (.pair (.pair (.int .i64) (.int .i64)) (.pair .bool (.sl (.pair (.int .i64) (.sl (.int .u8))))))))))))))))))) true, .raw] [.d (.sl (.int .u8)) l] [] Decode1.k) = Decode1.f fuel l := by
  have h : (denF Decode1_E loopN fuel Try.f22 [.dat (.pair (.int .i64) (.pair (.int .i64) (.pair (.int .i64) (.pair (.pair (.int .i64) (.int .i64)) (.pair (.int .i64) (.pair (.int .i64) (.pair (.int .i64) (.pair (.int .i64) (.pair (.int .i64) (.sl (.pair (.int .i64) (.pair (.int .i64) (.pair (.int .i64) (.pair (.pair (.int .i64) (.int .i64)) (.pair .bool (.sl (.pair (.int .i64) (.sl (.int .u8))))))))))))))))))) true, .raw] [.d (.sl (.int .u8)) l] [] Decode1.k) = Decode1.b l (fun x8 x9 x10 x11 x12 x13 x14 x15 x16 x17 x18 x19 x20 => lp Decode1_E fuel Try.f22 [.dat (.pair (.int .i64) (.pair (.int .i64) (.pair (.int .i64) (.pair (.pair (.int .i64) (.int .i64)) (.pair (.int .i64) (.pair (.int .i64) (.pair (.int .i64) (.pair (.int .i64) (.pair (.int .i64) (.sl (.pair (.int .i64) (.pair (.int .i64) (.pair (.int .i64) (.pair (.pair (.int .i64) (.int .i64)) (.pair .bool (.sl (.pair (.int .i64) (.sl (.int .u8))))))))))))))))))) true, .raw] 0 Decode1.k 13 [] fuel (Decode1.s13 l x8 x9 x10 x11 x12 x13 x14 x15 x16 x17 x18 x19 x20)) := by kernel_rfl
  rw [h]
  have e13 : (fun x8 x9 x10 x11 x12 x13 x14 x15 x16 x17 x18 x19 x20 => lp Decode1_E fuel Try.f22 [.dat (.pair (.int .i64) (.pair (.int .i64) (.pair (.int .i64) (.pair (.pair (.int .i64) (.int .i64)) (.pair (.int .i64) (.pair (.int .i64) (.pair (.int .i64) (.pair (.int .i64) (.pair (.int .i64) (.sl (.pair (.int .i64) (.pair (.int .i64) (.pair (.int .i64) (.pair (.pair (.int .i64) (.int .i64)) (.pair .bool (.sl (.pair (.int .i64) (.sl (.int .u8))))))))))))))))))) true, .raw] 0 Decode1.k 13 [] fuel (Decode1.s13 l x8 x9 x10 x11 x12 x13 x14 x15 x16 x17 x18 x19 x20)) = Decode1.l13 fuel l fuel := (funext fun x8 => (funext fun x9 => (funext fun x10 => (funext fun x11 => (funext fun x12 => (funext fun x13 => (funext fun x14 => (funext fun x15 => (funext fun x16 => (funext fun x17 => (funext fun x18 => (funext fun x19 => (funext fun x20 => Decode1.l13_eq fuel l fuel x8 x9 x10 x11 x12 x13 x14 x15 x16 x17 x18 x19 x20)))))))))))))
  rw [e13]
  rfl


end Go.Proofs.Ytlmljpmohljefaa

set_option linter.unusedVariables false
set_option linter.unusedSimpArgs false
namespace Go.Proofs.Ytlmljpmohljefaa
open Go.Den
/-- the records that come next -/
noncomputable def decGo (l : List Int) : Nat → Int → Bool → List (Int × Int × Int × (Int × Int) × Bool × List (Int × List Int)) × Int × Bool
  | 0, a, bad => ([], a, bad)
  | k + 1, a, bad => if bad then ([], a, bad) else ((oneF l a bad).1 :: (decGo l k (oneF l a bad).2.1 (oneF l a bad).2.2).1, (decGo l k (oneF l a bad).2.1 (oneF l a bad).2.2).2)
noncomputable def endF (ok : Bool) (l : List Int) (a : Int) (bad : Bool) (kind from0 inc lo hi seq target : Int) (recs : List (Int × Int × Int × (Int × Int) × Bool × List (Int × List Int))) : Int × Int × Int × Int × Int × Int × Int × List (Int × Int × Int × (Int × Int) × Bool × List (Int × List Int)) × Int :=
  if ok && ((!bad && (leftF l a bad == 0)) && fits1 kind from0 inc lo hi seq target 0 0 0 recs) then (kind, from0, inc, lo, hi, seq, target, recs, 0) else (0, 0, 0, 0, 0, 0, 0, [], 4)
noncomputable def decF (l : List Int) : Int × Int × Int × Int × Int × Int × Int × List (Int × Int × Int × (Int × Int) × Bool × List (Int × List Int)) × Int :=
  let r1 := readF l 1 0 false
  let r2 := readF l 2 r1.2.1 r1.2.2
  let r3 := readF l 6 r2.2.1 r2.2.2
  let r4 := readF l 1 r3.2.1 r3.2.2
  let s := ofGo allF r4.1
  let r5 := readF l 2 r4.2.1 r4.2.2
  let r6 := readF l 2 r5.2.1 r5.2.2
  let r7 := readF l 1 r6.2.1 r6.2.2
  let d := decGo l r7.1.toNat r7.2.1 r7.2.2
  endF s.2.2 l d.2.1 d.2.2 r1.1 r2.1 r3.1 s.1 s.2.1 r5.1 r6.1 d.1
theorem oneF_at (l : List Int) (a : Int) (bad : Bool) (hl : atOk l a = true) : atOk l (oneF l a bad).2.1 = true := by
  unfold oneF
  exact readF_at l 1 _ _ (readF_at l 2 _ _ (readF_at l 2 a bad hl))
theorem decGo_len (l : List Int) : ∀ (k : Nat) (a : Int) (bad : Bool), (decGo l k a bad).1.length ≤ k
  | 0, a, bad => by simp [decGo]
  | k + 1, a, bad => by
    unfold decGo
    split
    · simp
    · have := decGo_len l k (oneF l a bad).2.1 (oneF l a bad).2.2
      simp; omega
theorem decGo_bare (l : List Int) : ∀ (k : Nat) (a : Int) (bad : Bool), ∀ r ∈ (decGo l k a bad).1, r.2.2.2.2.2 = []
  | 0, a, bad, r, hr => by simp [decGo] at hr
  | k + 1, a, bad, r, hr => by
    unfold decGo at hr
    split at hr
    · simp at hr
    · rcases List.mem_cons.1 hr with rfl | hr
      · rfl
      · exact decGo_bare l k _ _ r hr
theorem Decode1.loop (fuel : Nat) (l : List Int) (ok : Bool) (n : Int) (hn : n ≤ 255) (kind from0 inc lo hi seq target : Int) : ∀ (k j : Nat) (i a : Int) (bad : Bool) (acc : List (Int × Int × Int × (Int × Int) × Bool × List (Int × List Int))), j < k → 0 ≤ i → i + (j : Int) = n → atOk l a = true → (acc.length : Int) ≤ i → (∀ r ∈ acc, r.2.2.2.2.2 = []) →
    Decode1.l13 fuel l k ok n i a bad kind from0 inc lo hi seq target acc = some (let e := endF ok l (decGo l j a bad).2.1 (decGo l j a bad).2.2 kind from0 inc lo hi seq target (acc ++ (decGo l j a bad).1); (e.1, e.2.1, e.2.2.1, e.2.2.2.1, e.2.2.2.2.1, e.2.2.2.2.2.1, e.2.2.2.2.2.2.1, 0, 0, 0, e.2.2.2.2.2.2.2.1, e.2.2.2.2.2.2.2.2)) := by
  have fin : ∀ (a : Int) (bad : Bool) (acc : List (Int × Int × Int × (Int × Int) × Bool × List (Int × List Int))), atOk l a = true → acc.length ≤ 300 → (∀ r ∈ acc, r.2.2.2.2.2 = []) →
      (if (!ok) = true then some ((0 : Int), (0 : Int), (0 : Int), (0 : Int), (0 : Int), (0 : Int), (0 : Int), (0 : Int), (0 : Int), (0 : Int), ([] : List (Int × Int × Int × (Int × Int) × Bool × List (Int × List Int))), (4 : Int)) else (if atOk l a = true then (if (!((!bad) && ((leftF l a bad) == (0 : Int)))) = true then some (0, 0, 0, 0, 0, 0, 0, 0, 0, 0, [], (4 : Int)) else (if smallRecs acc = true then (if (!(fits1 kind from0 inc lo hi seq target 0 0 0 acc)) = true then some (0, 0, 0, 0, 0, 0, 0, 0, 0, 0, [], (4 : Int)) else some (kind, from0, inc, lo, hi, seq, target, 0, 0, 0, acc, (0 : Int))) else none)) else none)) =
      some (let e := endF ok l a bad kind from0 inc lo hi seq target acc; (e.1, e.2.1, e.2.2.1, e.2.2.2.1, e.2.2.2.2.1, e.2.2.2.2.2.1, e.2.2.2.2.2.2.1, 0, 0, 0, e.2.2.2.2.2.2.2.1, e.2.2.2.2.2.2.2.2)) := by
    intro a bad acc hl hlen hb
    have hs : smallRecs acc = true := (smallRecs_iff acc).2 ⟨by omega, fun r hr => by rw [hb r hr]; rfl⟩
    unfold endF
    rw [hl, hs]
    cases ok
    · rfl
    · cases (!bad && (leftF l a bad == 0))
      · rfl
      · cases fits1 kind from0 inc lo hi seq target 0 0 0 acc <;> rfl
  intro k
  induction k with
  | zero => intro j i a bad acc h1; omega
  | succ k ih =>
    intro j i a bad acc h1 h2 h3 h4 h5 h6
    rw [Decode1.l13]
    unfold Decode1.b13
    cases j with
    | zero =>
      rw [if_neg (by simp; omega)]
      have := fin a bad acc h4 (by omega) h6
      unfold decGo
      rw [List.append_nil]
      exact this
    | succ j =>
      rw [if_pos (by simp; omega)]
      cases bad with
      | true =>
        rw [if_neg (by simp)]
        have := fin a true acc h4 (by omega) h6
        unfold decGo
        rw [if_pos rfl, List.append_nil]
        exact this
      | false =>
        rw [if_pos (show (!false) = true from rfl), if_pos h4, veil_eq]
        dsimp only
        rw [if_pos (by simp [lim]; omega), wrap_small (i + 1) (by omega) (by omega)]
        have hr : ((oneF l a false).1.1, ((oneF l a false).1.2.1, ((oneF l a false).1.2.2.1, (((oneF l a false).1.2.2.2.1.1, (oneF l a false).1.2.2.2.1.2), ((oneF l a false).1.2.2.2.2.1, ([] : List (Int × List Int))))))) = (oneF l a false).1 := rfl
        rw [hr, ih j (i + 1) (oneF l a false).2.1 (oneF l a false).2.2 (acc ++ [(oneF l a false).1]) (by omega) (by omega) (by omega) (oneF_at l a false h4) (by simp; omega) (fun r hr => by
          rcases List.mem_append.1 hr with hr | hr
          · exact h6 r hr
          · simp at hr; subst hr; rfl)]
        conv => rhs; rw [decGo]
        rw [if_neg (by simp), List.append_assoc, List.singleton_append]
theorem Decode1.pure (l : List Int) (hl : inB l = true) : Decode1.f 300 l = some (let e := decF l; (e.1, e.2.1, e.2.2.1, e.2.2.2.1, e.2.2.2.2.1, e.2.2.2.2.2.1, e.2.2.2.2.2.2.1, 0, 0, 0, e.2.2.2.2.2.2.2.1, e.2.2.2.2.2.2.2.2)) := by
  have h0 : atOk l 0 = true := (atOk_iff l 0).2 ⟨hl, by omega, by omega⟩
  unfold Decode1.f Decode1.b
  have h1 := readF_at l 1 0 false h0
  have h2 := readF_at l 2 _ (readF l 1 0 false).2.2 h1
  have h3 := readF_at l 6 _ (readF l 2 (readF l 1 0 false).2.1 (readF l 1 0 false).2.2).2.2 h2
  simp only [veil_eq]
  rw [if_pos hl, if_pos h0, if_pos h1, if_pos h2, if_pos h3]
  generalize hr1 : readF l 1 0 false = r1 at *
  generalize hr2 : readF l 2 r1.2.1 r1.2.2 = r2 at *
  generalize hr3 : readF l 6 r2.2.1 r2.2.2 = r3 at *
  have h4 := readF_at l 1 _ r3.2.2 h3
  rw [if_pos h4]
  generalize hr4 : readF l 1 r3.2.1 r3.2.2 = r4 at *
  have h5 := readF_at l 2 _ r4.2.2 h4
  rw [if_pos h5]
  generalize hr5 : readF l 2 r4.2.1 r4.2.2 = r5 at *
  have h6 := readF_at l 2 _ r5.2.2 h5
  rw [if_pos h6]
  generalize hr6 : readF l 2 r5.2.1 r5.2.2 = r6 at *
  have h7 := readF_at l 1 _ r6.2.2 h6
  have hb := readF_byte l _ r6.2.2 h6
  have hd : decF l = endF (ofGo allF r4.1).2.2 l (decGo l (readF l 1 r6.2.1 r6.2.2).1.toNat (readF l 1 r6.2.1 r6.2.2).2.1 (readF l 1 r6.2.1 r6.2.2).2.2).2.1 (decGo l (readF l 1 r6.2.1 r6.2.2).1.toNat (readF l 1 r6.2.1 r6.2.2).2.1 (readF l 1 r6.2.1 r6.2.2).2.2).2.2 r1.1 r2.1 r3.1 (ofGo allF r4.1).1 (ofGo allF r4.1).2.1 r5.1 r6.1 (decGo l (readF l 1 r6.2.1 r6.2.2).1.toNat (readF l 1 r6.2.1 r6.2.2).2.1 (readF l 1 r6.2.1 r6.2.2).2.2).1 := by
    unfold decF
    simp only [hr1, hr2, hr3, hr4, hr5, hr6]
  rw [hd]
  have := Decode1.loop 300 l (ofGo allF r4.1).2.2 (readF l 1 r6.2.1 r6.2.2).1 hb.2 r1.1 r2.1 r3.1 (ofGo allF r4.1).1 (ofGo allF r4.1).2.1 r5.1 r6.1 300 (readF l 1 r6.2.1 r6.2.2).1.toNat 0 (readF l 1 r6.2.1 r6.2.2).2.1 (readF l 1 r6.2.1 r6.2.2).2.2 [] (by omega) (by omega) (by omega) h7 (by simp) (by simp)
  rw [List.nil_append] at this
  exact this
end Go.Proofs.Ytlmljpmohljefaa

set_option linter.unusedVariables false
namespace Go.Proofs.Ytlmljpmohljefaa
open Go.Den
noncomputable def s_dec : Den.Sum := ⟨[.dat (.sl (.int .u8)) false], fun args objs κ => match args, objs with
  | [.d (.sl (.int .u8)) l], [] => if inB l = true then κ [.agg [.d (.int .i64) (decF l).1, .d (.int .i64) (decF l).2.1, .d (.int .i64) (decF l).2.2.1, .d (.int .i64) (decF l).2.2.2.1, .d (.int .i64) (decF l).2.2.2.2.1, .d (.int .i64) (decF l).2.2.2.2.2.1, .d (.int .i64) (decF l).2.2.2.2.2.2.1, .d (.int .i64) 0, .d (.int .i64) 0, .d (.int .i64) 0, .d (.sl (.pair (.int .i64) (.pair (.int .i64) (.pair (.int .i64) (.pair (.pair (.int .i64) (.int .i64)) (.pair .bool (.sl (.pair (.int .i64) (.sl (.int .u8)))))))))) ((decF l).2.2.2.2.2.2.2.1)], .d (.int .i64) ((decF l).2.2.2.2.2.2.2.2)] [] else none
  | _, _ => none⟩
noncomputable def s_decb : Den.Sum := ⟨[.dat (.sl (.int .u8)) false], fun args objs κ => match args, objs with
  | [.d (.sl (.int .u8)) l], [] => if inB l = true then (match veil (some (decF l)) with | none => none | some y => κ [.agg [.d (.int .i64) y.1, .d (.int .i64) y.2.1, .d (.int .i64) y.2.2.1, .d (.int .i64) y.2.2.2.1, .d (.int .i64) y.2.2.2.2.1, .d (.int .i64) y.2.2.2.2.2.1, .d (.int .i64) y.2.2.2.2.2.2.1, .d (.int .i64) 0, .d (.int .i64) 0, .d (.int .i64) 0, .d (.sl (.pair (.int .i64) (.pair (.int .i64) (.pair (.int .i64) (.pair (.pair (.int .i64) (.int .i64)) (.pair .bool (.sl (.pair (.int .i64) (.sl (.int .u8)))))))))) (y.2.2.2.2.2.2.2.1)], .d (.int .i64) (y.2.2.2.2.2.2.2.2)] []) else none
  | _, _ => none⟩
theorem s_dec_det : SumDet s_dec := fun avs objs R κ => by
  show s_dec.run avs objs (two κ) = (s_dec.run avs objs (two some)).bind κ
  unfold s_dec
  simp only
  split
  · first | rfl | (split <;> rfl)
  · rfl
theorem s_dec_ok : SumOk Try.prog 22 s_dec := by
  have hE : EnvOk Try.prog Decode1_E := env_ok (l := [(54, s_read), (56, s_sofb), (58, s_oneb), (18, s_fits1), (55, s_rnumb), (57, s_bad), (59, s_done)]) th_ok any_ok ⟨⟨s_read_ok, s_read_det⟩, ⟨s_sofb_ok, s_sofb_det⟩, ⟨s_oneb_ok, s_oneb_det⟩, ⟨s_fits1_ok, s_fits1_det⟩, ⟨s_rnumb_ok, s_rnumb_det⟩, ⟨s_bad_ok, s_bad_det⟩, ⟨s_done_ok, s_done_det⟩, trivial⟩ _
  refine sum_ok hE Try.func22 rfl (by kernel_rfl) s_dec [.dat (.pair (.int .i64) (.pair (.int .i64) (.pair (.int .i64) (.pair (.pair (.int .i64) (.int .i64)) (.pair (.int .i64) (.pair (.int .i64) (.pair (.int .i64) (.pair (.int .i64) (.pair (.int .i64) (.sl (.pair (.int .i64) (.pair (.int .i64) (.pair (.int .i64) (.pair (.pair (.int .i64) (.int .i64)) (.pair .bool (.sl (.pair (.int .i64) (.sl (.int .u8))))))))))))))))))) true, .raw] Decode1.k ?_
  intro R avs objs κ r h
  unfold s_dec at h
  simp only at h
  split at h
  · rename_i l
    split at h
    case isFalse => cases h
    rename_i hl
    refine ⟨300, _, _, _, (Decode1.eq (300) l).trans (Decode1.pure l hl), ?_, h⟩
    intro rs ros hk
    unfold Decode1.k at hk
    split at hk
    · first | (cases hk; exact ⟨rfl, rfl⟩) | (have e := Option.some.inj hk; rw [← e]; exact ⟨rfl, rfl⟩)
    · cases hk
  · cases h
theorem s_decb_det : SumDet s_decb := fun avs objs R κ => by
  show s_decb.run avs objs (two κ) = (s_decb.run avs objs (two some)).bind κ
  unfold s_decb
  simp only [veil_eq]
  split
  · first | rfl | (split <;> rfl)
  · rfl
theorem s_decb_ok : SumOk Try.prog 22 s_decb := ⟨s_dec_ok.1, fun avs objs κ r hr => s_dec_ok.2 avs objs κ r (by
  unfold s_decb at hr
  simp only [veil_eq] at hr
  split at hr
  · exact hr
  · cases hr)⟩
end Go.Proofs.Ytlmljpmohljefaa

/- printed by denfn.py -/
set_option linter.unusedVariables false
namespace Go.Proofs.Ytlmljpmohljefaa
open Go.Den
noncomputable def Gen1Image_E : Env := ⟨th, gam [(16, s_awake11), (22, s_decb), (17, s_enc)], fun i => ⟨[], [], []⟩⟩
noncomputable def Gen1Image.k (rs : List AV) (os : List Den.Obj) : Option Bool :=
  match rs, os with
  | [.d .bool r0], [] => some r0
  | _, _ => none
noncomputable def Gen1Image.b (l : List Int) : Option Bool :=
  (if (decide (((((List.length l)) : Nat) : Int) > (1300 : Int))) then some (true) else (if (inB l) then (match (veil (Option.some (decF l))) with | none => none | some y0 => (if (y0.2.2.2.2.2.2.2.2 != (0 : Int)) then some (true) else (if (smallRecs y0.2.2.2.2.2.2.2.1) then (if ((encF y0.1 y0.2.1 y0.2.2.1 y0.2.2.2.1 y0.2.2.2.2.1 y0.2.2.2.2.2.1 y0.2.2.2.2.2.2.1 0 0 0 y0.2.2.2.2.2.2.2.1).2 == (0 : Int)) then (if ((ByteArray.toList (strOf (encF y0.1 y0.2.1 y0.2.2.1 y0.2.2.2.1 y0.2.2.2.2.1 y0.2.2.2.2.2.1 y0.2.2.2.2.2.2.1 0 0 0 y0.2.2.2.2.2.2.2.1).1)) == (ByteArray.toList (strOf l))) then some (true) else some (false)) else some (false)) else none))) else none))
noncomputable def Gen1Image.f (fuel : Nat) (l : List Int) : Option Bool := Gen1Image.b l
theorem Gen1Image.eq (fuel : Nat) (l : List Int) : (denF Gen1Image_E loopN fuel Try.f4 [.raw] [.d (.sl (.int .u8)) l] [] Gen1Image.k) = Gen1Image.f fuel l := by
  kernel_rfl


end Go.Proofs.Ytlmljpmohljefaa

set_option linter.unusedVariables false
set_option linter.unusedSimpArgs false
namespace Go.Proofs.Ytlmljpmohljefaa
open Go.Den
theorem be_fold : ∀ (p : List Int) (n : Nat) (v : Int), (∀ c ∈ p, 0 ≤ c ∧ c ≤ 255) → be (n + p.length) (p.foldl (fun v c => v * 256 + c) v) = be n v ++ p
  | [], n, v, _ => by simp
  | c :: p, n, v, h => by
    have hc := h c (by simp)
    have ih := be_fold p (n + 1) (v * 256 + c) (fun x hx => h x (by simp [hx]))
    rw [List.length_cons, List.foldl_cons, show n + (p.length + 1) = n + 1 + p.length from by omega, ih]
    show (be n ((v * 256 + c) / 256) ++ [(v * 256 + c) % 256]) ++ p = _
    rw [show (v * 256 + c) / 256 = v from by omega, show (v * 256 + c) % 256 = c from by omega]
    simp
theorem be_numB (p : List Int) (h : ∀ c ∈ p, 0 ≤ c ∧ c ≤ 255) : be p.length (numB p) = p := by
  have := be_fold p 0 0 h
  rw [Nat.zero_add] at this
  exact this
theorem read_ok (l : List Int) (n a : Int) (bad : Bool) (hl : atOk l a = true) (h1 : 1 ≤ n) (h7 : n ≤ 7) (h : (readF l n a bad).2.2 = false) :
    bad = false ∧ (readF l n a bad).2.1 = a + n ∧ l.drop a.toNat = be n.toNat (readF l n a bad).1 ++ l.drop (a + n).toNat ∧ atOk l (a + n) = true := by
  obtain ⟨k1, k2, k3⟩ := (atOk_iff l a).1 hl
  obtain ⟨k4, k5⟩ := (inB_iff l).1 k1
  have hn : (if (decide (n < 1) || decide (n > 7)) = true then (-1 : Int) else n) = n := if_neg (by simp; omega)
  unfold readF at h ⊢
  dsimp only at h ⊢
  rw [hn] at h ⊢
  cases bad with
  | true => simp [stepF] at h
  | false =>
    unfold stepF at h ⊢
    rw [if_neg (by simp)] at h ⊢
    by_cases hc : (decide (n < 0) || decide (n > (l.length : Int) - a)) = true
    · rw [if_pos hc] at h
      cases h
    · rw [if_neg hc]
      simp only [Bool.or_eq_true, decide_eq_true_eq, not_or] at hc
      refine ⟨rfl, rfl, ?_, (atOk_iff l _).2 ⟨k1, by omega, by omega⟩⟩
      dsimp only
      rw [if_pos rfl]
      have hb : be n.toNat (numB (seg l a n)) = seg l a n := by
        have := be_numB (seg l a n) (fun c hc => k5 c (seg_mem hc))
        rwa [seg_length l a n k2 (by omega) (by omega)] at this
      rw [hb]
      unfold seg
      rw [List.drop_take, show (a + n).toNat = a.toNat + n.toNat from by omega, Nat.add_sub_cancel_left, ← List.drop_drop, List.take_append_drop]
theorem one_ok (l : List Int) (a : Int) (bad : Bool) (hl : atOk l a = true) (h : (oneF l a bad).2.2 = false) :
    bad = false ∧ (oneF l a bad).2.1 = a + 5 ∧ atOk l (a + 5) = true ∧ (recOkT (oneF l a bad).1 = true → l.drop a.toNat = recB (oneF l a bad).1 ++ l.drop (a + 5).toNat) := by
  have e2 := readF_at l 2 a bad hl
  have f := fun hh => read_ok l 2 a bad hl (by omega) (by omega) hh
  unfold oneF at h ⊢
  dsimp only at h ⊢
  generalize readF l 2 a bad = r1 at *
  have e3 := readF_at l 2 _ r1.2.2 e2
  have d := fun hh => read_ok l 2 r1.2.1 r1.2.2 e2 (by omega) (by omega) hh
  generalize readF l 2 r1.2.1 r1.2.2 = r2 at *
  have hb := readF_byte l _ r2.2.2 e3
  have c := fun hh => read_ok l 1 r2.2.1 r2.2.2 e3 (by omega) (by omega) hh
  generalize readF l 1 r2.2.1 r2.2.2 = r3 at *
  obtain ⟨c1, c2, c3, c4⟩ := c h
  obtain ⟨d1, d2, d3, d4⟩ := d c1
  obtain ⟨f1, f2, f3, f4⟩ := f d1
  have e5 : r2.2.1 + 1 = a + 5 := by omega
  refine ⟨f1, by omega, by rw [← e5]; exact c4, fun hr => ?_⟩
  obtain ⟨q1, _⟩ := recOk_facts hr
  dsimp only at q1
  have hv : ¬ (r3.1 > 127) := by
    intro hc
    rw [if_pos (by simpa using hc)] at q1
    omega
  rw [if_neg (by simpa using hv)]
  rw [f3, ← f2, d3, ← d2, c3, e5]
  have hs : stateL (r1.1, r2.1, r3.1 % 4, (r3.1 / 4 % 4, r3.1 / 16 % 4), r3.1 / 64 % 2 == 1, ([] : List (Int × List Int))) = r3.1 := by
    unfold stateL
    dsimp only
    by_cases h6 : r3.1 / 64 % 2 = 1
    · rw [if_pos (by simpa using h6)]; omega
    · rw [if_neg (by simpa using h6)]; omega
  unfold recB
  rw [hs]
  simp [n1, n2]
theorem dec_ok (l : List Int) : ∀ (k : Nat) (a : Int) (bad : Bool), atOk l a = true → (decGo l k a bad).2.2 = false → (∀ r ∈ (decGo l k a bad).1, recOkT r = true) →
    bad = false ∧ (decGo l k a bad).1.length = k ∧ atOk l (decGo l k a bad).2.1 = true ∧ l.drop a.toNat = (decGo l k a bad).1.flatMap recB ++ l.drop (decGo l k a bad).2.1.toNat
  | 0, a, bad, hl, h, hr => ⟨h, rfl, hl, by simp [decGo]⟩
  | k + 1, a, bad, hl, h, hr => by
    unfold decGo at h hr ⊢
    cases bad with
    | true => simp at h
    | false =>
      rw [if_neg (by simp)] at h hr ⊢
      dsimp only at h hr ⊢
      have hat := oneF_at l a false hl
      obtain ⟨i1, i2, i3, i4⟩ := dec_ok l k _ _ hat h (fun r hr' => hr r (by simp [hr']))
      obtain ⟨j1, j2, j3, j4⟩ := one_ok l a false hl i1
      refine ⟨rfl, by simp [i2], i3, ?_⟩
      rw [j4 (hr _ (by simp)), List.flatMap_cons, List.append_assoc, ← i4, j2]
theorem ofGo_some {c : Int} (h : (ofGo allF c).2.2 = true) : codeF (ofGo allF c).1 (ofGo allF c).2.1 = c := by
  unfold allF ofGo ofGo ofGo ofGo ofGo ofGo ofGo at h ⊢
  split
  · rename_i hc; simpa using hc
  split
  · rename_i hc; simpa using hc
  split
  · rename_i hc; simpa using hc
  split
  · rename_i hc; simpa using hc
  split
  · rename_i hc; simpa using hc
  split
  · rename_i hc; simpa using hc
  rename_i c1 c2 c3 c4 c5 c6
  rw [if_neg c1, if_neg c2, if_neg c3, if_neg c4, if_neg c5, if_neg c6] at h
  cases h
/-- what was read is what is written -/
theorem image (l : List Int) (hl : inB l = true) (h : (decF l).2.2.2.2.2.2.2.2 = 0) :
    fits1 (decF l).1 (decF l).2.1 (decF l).2.2.1 (decF l).2.2.2.1 (decF l).2.2.2.2.1 (decF l).2.2.2.2.2.1 (decF l).2.2.2.2.2.2.1 0 0 0 (decF l).2.2.2.2.2.2.2.1 = true ∧
    bodyF (decF l).1 (decF l).2.1 (decF l).2.2.1 (decF l).2.2.2.1 (decF l).2.2.2.2.1 (decF l).2.2.2.2.2.1 (decF l).2.2.2.2.2.2.1 (decF l).2.2.2.2.2.2.2.1 = l ∧ smallRecs (decF l).2.2.2.2.2.2.2.1 = true := by
  have h0 : atOk l 0 = true := (atOk_iff l 0).2 ⟨hl, by omega, by omega⟩
  have h1 := readF_at l 1 0 false h0
  have h2 := readF_at l 2 _ (readF l 1 0 false).2.2 h1
  have h3 := readF_at l 6 _ (readF l 2 (readF l 1 0 false).2.1 (readF l 1 0 false).2.2).2.2 h2
  unfold decF at h ⊢
  dsimp only at h ⊢
  have q1 := fun hh => read_ok l 1 0 false h0 (by omega) (by omega) hh
  generalize hr1 : readF l 1 0 false = r1 at *
  have q2 := fun hh => read_ok l 2 r1.2.1 r1.2.2 h1 (by omega) (by omega) hh
  generalize hr2 : readF l 2 r1.2.1 r1.2.2 = r2 at *
  have q3 := fun hh => read_ok l 6 r2.2.1 r2.2.2 h2 (by omega) (by omega) hh
  generalize hr3 : readF l 6 r2.2.1 r2.2.2 = r3 at *
  have h4 := readF_at l 1 _ r3.2.2 h3
  have q4 := fun hh => read_ok l 1 r3.2.1 r3.2.2 h3 (by omega) (by omega) hh
  generalize hr4 : readF l 1 r3.2.1 r3.2.2 = r4 at *
  have h5 := readF_at l 2 _ r4.2.2 h4
  have q5 := fun hh => read_ok l 2 r4.2.1 r4.2.2 h4 (by omega) (by omega) hh
  generalize hr5 : readF l 2 r4.2.1 r4.2.2 = r5 at *
  have h6 := readF_at l 2 _ r5.2.2 h5
  have q6 := fun hh => read_ok l 2 r5.2.1 r5.2.2 h5 (by omega) (by omega) hh
  generalize hr6 : readF l 2 r5.2.1 r5.2.2 = r6 at *
  have h7 := readF_at l 1 _ r6.2.2 h6
  have q7 := fun hh => read_ok l 1 r6.2.1 r6.2.2 h6 (by omega) (by omega) hh
  have hby := readF_byte l _ r6.2.2 h6
  generalize hr7 : readF l 1 r6.2.1 r6.2.2 = r7 at *
  have hbare := decGo_bare l r7.1.toNat r7.2.1 r7.2.2
  have hdl := decGo_len l r7.1.toNat r7.2.1 r7.2.2
  have q8 := fun hh1 hh2 => dec_ok l r7.1.toNat r7.2.1 r7.2.2 h7 hh1 hh2
  generalize hd : decGo l r7.1.toNat r7.2.1 r7.2.2 = d at *
  unfold endF at h ⊢
  by_cases hc : ((ofGo allF r4.1).2.2 && ((!d.2.2 && (leftF l d.2.1 d.2.2 == 0)) && fits1 r1.1 r2.1 r3.1 (ofGo allF r4.1).1 (ofGo allF r4.1).2.1 r5.1 r6.1 0 0 0 d.1)) = true
  · rw [if_pos hc]
    dsimp only
    simp only [Bool.and_eq_true, Bool.not_eq_true', beq_iff_eq] at hc
    obtain ⟨c1, ⟨c2, c3⟩, c4⟩ := hc
    have hf := c4
    rw [fits_same] at hf
    obtain ⟨v, hx⟩ := fits_facts hf
    obtain ⟨_, _, _, _, _, _, v7, _, _, _, _, _, v12, v13⟩ := valid_facts v
    obtain ⟨s1, s2, s3, s4⟩ := q8 c2 v13
    obtain ⟨t1, t2, t3, t4⟩ := q7 s1
    obtain ⟨u1, u2, u3, u4⟩ := q6 t1
    obtain ⟨w1, w2, w3, w4⟩ := q5 u1
    obtain ⟨x1, x2, x3, x4⟩ := q4 w1
    obtain ⟨y1, y2, y3, y4⟩ := q3 x1
    obtain ⟨z1, z2, z3, z4⟩ := q2 y1
    obtain ⟨p1, p2, p3, p4⟩ := q1 z1
    refine ⟨c4, ?_, (smallRecs_iff _).2 ⟨by omega, fun r hr => by rw [hbare r hr]; rfl⟩⟩
    have hcode : (ofGo allF r4.1).1 * 16 + (ofGo allF r4.1).2.1 = r4.1 := by
      rw [← code_eq v7]; exact ofGo_some c1
    have hlen : (d.1.length : Int) = r7.1 := by omega
    have hleft : d.2.1.toNat = l.length := by
      rw [c2] at c3
      unfold leftF at c3
      simp at c3
      have := (atOk_iff l _).1 s3
      omega
    unfold bodyF headB
    rw [hcode, hlen]
    rw [hleft, List.drop_length, List.append_nil] at s4
    have e0 : l.drop (0 : Int).toNat = l := rfl
    rw [e0] at p3
    rw [p3, ← p2, z3, ← z2, y3, ← y2, x3, ← x2, w3, ← w2, u3, ← u2, t3, ← t2, s4]
    simp [n1, n2, n6, List.append_assoc]
  · rw [if_neg hc] at h
    cases h
theorem Gen1Image.pure (l : List Int) (hl : ∀ c ∈ l, 0 ≤ c ∧ c ≤ 255) : Gen1Image.f 0 l = some true := by
  unfold Gen1Image.f Gen1Image.b
  by_cases h : ((l.length : Nat) : Int) > 1300
  · rw [if_pos (by simpa using h)]
  · have hb : inB l = true := (inB_iff l).2 ⟨by omega, hl⟩
    rw [if_neg (by simpa using h), if_pos hb, veil_eq]
    dsimp only
    by_cases h0 : (decF l).2.2.2.2.2.2.2.2 = 0
    · obtain ⟨i1, i2, i3⟩ := image l hb h0
      rw [if_neg (by simp [h0]), if_pos i3]
      have hv : validF (decF l).1 (decF l).2.1 (decF l).2.2.1 (decF l).2.2.2.1 (decF l).2.2.2.2.1 (decF l).2.2.2.2.2.1 (decF l).2.2.2.2.2.2.1 0 0 0 (decF l).2.2.2.2.2.2.2.1 = true := by
        have := i1
        rw [fits_same] at this
        exact (fits_facts this).1
      unfold encF
      rw [hv, i1, i2]
      simp
    · rw [if_pos (by simpa using h0)]
end Go.Proofs.Ytlmljpmohljefaa

/- printed by denfn.py -/
set_option linter.unusedVariables false
namespace Go.Proofs.Ytlmljpmohljefaa
open Go.Den
noncomputable def lexB : List Int → List Int → Int
  | [], [] => 0
  | [], _ :: _ => -1
  | _ :: _, [] => 1
  | x :: l, y :: m => if decide (x < y) then -1 else if decide (x > y) then 1 else lexB l m
noncomputable def signF (t1 : Int) (d1 : List Int) (t2 : Int) (d2 : List Int) : Int := if t1 != t2 then (if decide (t1 < t2) then -1 else 1) else lexB d1 d2
noncomputable def cmpGo : List (Int × List Int) → List (Int × List Int) → Int
  | [], [] => 0
  | [], _ :: _ => -1
  | _ :: _, [] => 1
  | x :: l, y :: m => if signF x.1 x.2 y.1 y.2 != 0 then signF x.1 x.2 y.1 y.2 else cmpGo l m
noncomputable def alike8 (a b : (Int × Int × Int × (Int × Int) × Bool × List (Int × List Int))) : Bool := a.1 == b.1 && (a.2.1 == b.2.1 && (a.2.2.1 == b.2.2.1 && (a.2.2.2.1.1 == b.2.2.2.1.1 && (a.2.2.2.1.2 == b.2.2.2.1.2 && (a.2.2.2.2.1 == b.2.2.2.2.1 && cmpGo a.2.2.2.2.2 b.2.2.2.2.2 == 0)))))
noncomputable def allGo : List (Int × Int × Int × (Int × Int) × Bool × List (Int × List Int)) → List (Int × Int × Int × (Int × Int) × Bool × List (Int × List Int)) → Bool
  | [], [] => true
  | a :: l, b :: m => alike8 a b && allGo l m
  | _, _ => false
noncomputable def small (l : List Int) : Bool := decide (l.length < 281474976710656)
noncomputable def s_isnan : Den.Sum := ⟨[.raw], fun args objs κ => match args, objs with
  | [.d (.int .u8) x], [] => κ [.d .bool false] []
  | _, _ => none⟩
noncomputable def s_cmpb : Den.Sum := ⟨[.raw, .raw], fun args objs κ => match args, objs with
  | [.d (.int .u8) x, .d (.int .u8) y], [] => κ [.d (.int .i64) (if decide (x < y) then -1 else if decide (x > y) then 1 else 0)] []
  | _, _ => none⟩
noncomputable def s_slcmp : Den.Sum := ⟨[.dat (.sl (.int .u8)) false, .dat (.sl (.int .u8)) false], fun args objs κ => match args, objs with
  | [.d (.sl (.int .u8)) l, .d (.sl (.int .u8)) m], [] => if (small l && small m) = true then κ [.d (.int .i64) (lexB l m)] [] else none
  | _, _ => none⟩
noncomputable def s_sign : Den.Sum := ⟨[.dat (.pair (.int .i64) (.sl (.int .u8))) true, .dat (.pair (.int .i64) (.sl (.int .u8))) true], fun args objs κ => match args, objs with
  | [.agg [.d (.int .i64) t1, .d (.sl (.int .u8)) d1], .agg [.d (.int .i64) t2, .d (.sl (.int .u8)) d2]], [] => if (small d1 && small d2) = true then κ [.d (.int .i64) (signF t1 d1 t2 d2)] [] else none
  | _, _ => none⟩
noncomputable def s_bcmp : Den.Sum := ⟨[.dat (.sl (.pair (.int .i64) (.sl (.int .u8)))) false, .dat (.sl (.pair (.int .i64) (.sl (.int .u8)))) false], fun args objs κ => match args, objs with
  | [.d (.sl (.pair (.int .i64) (.sl (.int .u8)))) a, .d (.sl (.pair (.int .i64) (.sl (.int .u8)))) b], [] => if (smallBag a && smallBag b) = true then κ [.d (.int .i64) (cmpGo a b)] [] else none
  | _, _ => none⟩
noncomputable def s_bsame : Den.Sum := ⟨[.dat (.sl (.pair (.int .i64) (.sl (.int .u8)))) false, .dat (.sl (.pair (.int .i64) (.sl (.int .u8)))) false], fun args objs κ => match args, objs with
  | [.d (.sl (.pair (.int .i64) (.sl (.int .u8)))) a, .d (.sl (.pair (.int .i64) (.sl (.int .u8)))) b], [] => if (smallBag a && smallBag b) = true then κ [.d .bool (cmpGo a b == 0)] [] else none
  | _, _ => none⟩
noncomputable def s_alike8 : Den.Sum := ⟨[.dat (.pair (.int .i64) (.pair (.int .i64) (.pair (.int .i64) (.pair (.pair (.int .i64) (.int .i64)) (.pair .bool (.sl (.pair (.int .i64) (.sl (.int .u8))))))))) true, .dat (.pair (.int .i64) (.pair (.int .i64) (.pair (.int .i64) (.pair (.pair (.int .i64) (.int .i64)) (.pair .bool (.sl (.pair (.int .i64) (.sl (.int .u8))))))))) true], fun args objs κ => match args, objs with
  | [.agg [.d (.int .i64) rid, .d (.int .i64) rinc, .d (.int .i64) rst, .d (.int .i64) rlo, .d (.int .i64) rhi, .d .bool rcut, .d (.sl (.pair (.int .i64) (.sl (.int .u8)))) rbag], .agg [.d (.int .i64) sid, .d (.int .i64) sinc, .d (.int .i64) sst, .d (.int .i64) slo, .d (.int .i64) shi, .d .bool scut, .d (.sl (.pair (.int .i64) (.sl (.int .u8)))) sbag]], [] => if (smallBag rbag && smallBag sbag) = true then κ [.d .bool (alike8 (rid, rinc, rst, (rlo, rhi), rcut, rbag) (sid, sinc, sst, (slo, shi), scut, sbag))] [] else none
  | _, _ => none⟩
noncomputable def s_allal : Den.Sum := ⟨[.dat (.sl (.pair (.int .i64) (.pair (.int .i64) (.pair (.int .i64) (.pair (.pair (.int .i64) (.int .i64)) (.pair .bool (.sl (.pair (.int .i64) (.sl (.int .u8)))))))))) false, .dat (.sl (.pair (.int .i64) (.pair (.int .i64) (.pair (.int .i64) (.pair (.pair (.int .i64) (.int .i64)) (.pair .bool (.sl (.pair (.int .i64) (.sl (.int .u8)))))))))) false], fun args objs κ => match args, objs with
  | [.d (.sl (.pair (.int .i64) (.pair (.int .i64) (.pair (.int .i64) (.pair (.pair (.int .i64) (.int .i64)) (.pair .bool (.sl (.pair (.int .i64) (.sl (.int .u8)))))))))) l, .d (.sl (.pair (.int .i64) (.pair (.int .i64) (.pair (.int .i64) (.pair (.pair (.int .i64) (.int .i64)) (.pair .bool (.sl (.pair (.int .i64) (.sl (.int .u8)))))))))) m], [] => if (smallRecs l && smallRecs m) = true then κ [.d .bool (allGo l m)] [] else none
  | _, _ => none⟩
noncomputable def s_alike10 : Den.Sum := ⟨[.dat (.pair (.int .i64) (.pair (.int .i64) (.pair (.int .i64) (.pair (.pair (.int .i64) (.int .i64)) (.pair (.int .i64) (.pair (.int .i64) (.pair (.int .i64) (.pair (.int .i64) (.pair (.int .i64) (.sl (.pair (.int .i64) (.pair (.int .i64) (.pair (.int .i64) (.pair (.pair (.int .i64) (.int .i64)) (.pair .bool (.sl (.pair (.int .i64) (.sl (.int .u8))))))))))))))))))) true, .dat (.pair (.int .i64) (.pair (.int .i64) (.pair (.int .i64) (.pair (.pair (.int .i64) (.int .i64)) (.pair (.int .i64) (.pair (.int .i64) (.pair (.int .i64) (.pair (.int .i64) (.pair (.int .i64) (.sl (.pair (.int .i64) (.pair (.int .i64) (.pair (.int .i64) (.pair (.pair (.int .i64) (.int .i64)) (.pair .bool (.sl (.pair (.int .i64) (.sl (.int .u8))))))))))))))))))) true], fun args objs κ => match args, objs with
  | [.agg [.d (.int .i64) mkind, .d (.int .i64) mfrom0, .d (.int .i64) minc, .d (.int .i64) mlo, .d (.int .i64) mhi, .d (.int .i64) mseq, .d (.int .i64) mtarget, .d (.int .i64) mlife, .d (.int .i64) mepoch, .d (.int .i64) mbase, .d (.sl (.pair (.int .i64) (.pair (.int .i64) (.pair (.int .i64) (.pair (.pair (.int .i64) (.int .i64)) (.pair .bool (.sl (.pair (.int .i64) (.sl (.int .u8)))))))))) mrecs], .agg [.d (.int .i64) nkind, .d (.int .i64) nfrom0, .d (.int .i64) ninc, .d (.int .i64) nlo, .d (.int .i64) nhi, .d (.int .i64) nseq, .d (.int .i64) ntarget, .d (.int .i64) nlife, .d (.int .i64) nepoch, .d (.int .i64) nbase, .d (.sl (.pair (.int .i64) (.pair (.int .i64) (.pair (.int .i64) (.pair (.pair (.int .i64) (.int .i64)) (.pair .bool (.sl (.pair (.int .i64) (.sl (.int .u8)))))))))) nrecs]], [] => if (smallRecs mrecs && smallRecs nrecs) = true then κ [.d .bool (mkind == nkind && (mfrom0 == nfrom0 && (minc == ninc && (mlo == nlo && (mhi == nhi && (mseq == nseq && (mtarget == ntarget && (mlife == nlife && (mepoch == nepoch && (mbase == nbase && allGo mrecs nrecs))))))))))] [] else none
  | _, _ => none⟩
noncomputable def IsNaN_E : Env := ⟨th, gam [], fun i => ⟨[], [], []⟩⟩
noncomputable def IsNaN.k (rs : List AV) (os : List Den.Obj) : Option Bool :=
  match rs, os with
  | [.d .bool r0], [] => some r0
  | _, _ => none
noncomputable def IsNaN.b (x : Int) : Option Bool :=
  some ((x != x))
noncomputable def IsNaN.f (fuel : Nat) (x : Int) : Option Bool := IsNaN.b x
theorem IsNaN.eq (fuel : Nat) (x : Int) : (denF IsNaN_E loopN fuel Try.f109 [.raw] [.d (.int .u8) x] [] IsNaN.k) = IsNaN.f fuel x := by
  kernel_rfl


noncomputable def CmpB_E : Env := ⟨th, gam [(109, s_isnan)], fun i => ⟨[], [], []⟩⟩
noncomputable def CmpB.k (rs : List AV) (os : List Den.Obj) : Option Int :=
  match rs, os with
  | [.d (.int .i64) r0], [] => some r0
  | _, _ => none
noncomputable def CmpB.b (x : Int) (y : Int) : Option Int :=
  (if (decide (x < y)) then some ((-(1 : Int))) else (if (decide (x > y)) then some ((1 : Int)) else some ((0 : Int))))
noncomputable def CmpB.f (fuel : Nat) (x : Int) (y : Int) : Option Int := CmpB.b x y
theorem CmpB.eq (fuel : Nat) (x : Int) (y : Int) : (denF CmpB_E loopN fuel Try.f108 [.raw] [.d (.int .u8) x, .d (.int .u8) y] [] CmpB.k) = CmpB.f fuel x y := by
  kernel_rfl


noncomputable def SlCmp_E : Env := ⟨th, gam [(108, s_cmpb)], fun i => if i = 2 then ⟨[0, 1, 9, 10, 11], [], []⟩ else ⟨[], [], []⟩⟩
noncomputable def SlCmp.k (rs : List AV) (os : List Den.Obj) : Option Int :=
  match rs, os with
  | [.d (.int .i64) r0], [] => some r0
  | _, _ => none
noncomputable def SlCmp.s2 (l : List Int) (m : List Int) (x0 : Int) (x1 : Int) : St := ⟨[.d (.sl (.int .u8)) (l), .d (.sl (.int .u8)) (m), .dead, .dead, .dead, .dead, .dead, .dead, .dead, .d (.sl (.int .u8)) (l), .d (.int .i64) x0, .d (.int .i64) x1, .dead, .dead, .dead, .dead, .dead, .dead, .dead, .dead, .dead, .dead, .dead, .dead, .dead, .dead, .dead, .dead, .dead, .dead, .dead, .dead, .dead, .dead, .dead, .dead], ofL [], 0⟩
noncomputable def SlCmp.b2 (l : List Int) (m : List Int) (A2 : Int → Int → Option Int) (x0 : Int) (x1 : Int) : Option Int :=
  (if (decide (x1 < x0)) then (match (idx l x1) with | none => none | some y2 => (if (decide (x1 ≥ ((((List.length m)) : Nat) : Int))) then some ((1 : Int)) else (match (idx m x1) with | none => none | some y3 => (if ((if (decide (y2 < y3)) then (-1) else (if (decide (y2 > y3)) then 1 else 0)) != (0 : Int)) then some ((if (decide (y2 < y3)) then (-1) else (if (decide (y2 > y3)) then 1 else 0))) else A2 x0 (Go.IntKind.wrap .i64 (x1 + (1 : Int))))))) else (if (decide (((((List.length l)) : Nat) : Int) < ((((List.length m)) : Nat) : Int))) then some ((-(1 : Int))) else some ((0 : Int))))
noncomputable def SlCmp.l2 (fuel : Nat) (l : List Int) (m : List Int) : Nat → Int → Int → Option Int
  | 0, _, _ => none
  | k + 1, x0, x1 => SlCmp.b2 l m (SlCmp.l2 fuel l m k) x0 x1
noncomputable def SlCmp.b (l : List Int) (m : List Int) (E2 : Int → Int → Option Int) : Option Int :=
  E2 ((((List.length l)) : Nat) : Int) (0 : Int)
noncomputable def SlCmp.f (fuel : Nat) (l : List Int) (m : List Int) : Option Int := SlCmp.b l m (SlCmp.l2 fuel l m fuel)
theorem SlCmp.l2_eq (fuel : Nat) (l : List Int) (m : List Int) : ∀ (k : Nat) (x0 : Int) (x1 : Int), lp SlCmp_E fuel Try.f106 [.raw] 0 SlCmp.k 2 [] k (SlCmp.s2 l m x0 x1) = SlCmp.l2 fuel l m k x0 x1 := by
  intro k
  induction k with
  | zero => intro x0 x1; rfl
  | succ k ih =>
    intro x0 x1
    have h : lp SlCmp_E fuel Try.f106 [.raw] 0 SlCmp.k 2 [] (k + 1) (SlCmp.s2 l m x0 x1) = SlCmp.b2 l m (fun x0 x1 => lp SlCmp_E fuel Try.f106 [.raw] 0 SlCmp.k 2 [] k (SlCmp.s2 l m x0 x1)) x0 x1 := by kernel_rfl
    rw [h]
    have e2 : (fun x0 x1 => lp SlCmp_E fuel Try.f106 [.raw] 0 SlCmp.k 2 [] k (SlCmp.s2 l m x0 x1)) = SlCmp.l2 fuel l m k := (funext fun x0 => (funext fun x1 => ih x0 x1))
    rw [e2]
    rfl
theorem SlCmp.eq (fuel : Nat) (l : List Int) (m : List Int) : (denF SlCmp_E loopN fuel Try.f106 [.raw] [.d (.sl (.int .u8)) l, .d (.sl (.int .u8)) m] [] SlCmp.k) = SlCmp.f fuel l m := by
  have h : (denF SlCmp_E loopN fuel Try.f106 [.raw] [.d (.sl (.int .u8)) l, .d (.sl (.int .u8)) m] [] SlCmp.k) = SlCmp.b l m (fun x0 x1 => lp SlCmp_E fuel Try.f106 [.raw] 0 SlCmp.k 2 [] fuel (SlCmp.s2 l m x0 x1)) := by kernel_rfl
  rw [h]
  have e2 : (fun x0 x1 => lp SlCmp_E fuel Try.f106 [.raw] 0 SlCmp.k 2 [] fuel (SlCmp.s2 l m x0 x1)) = SlCmp.l2 fuel l m fuel := (funext fun x0 => (funext fun x1 => SlCmp.l2_eq fuel l m fuel x0 x1))
  rw [e2]
  rfl


noncomputable def BSign_E : Env := ⟨th, gam [(106, s_slcmp)], fun i => ⟨[], [], []⟩⟩
noncomputable def BSign.k (rs : List AV) (os : List Den.Obj) : Option Int :=
  match rs, os with
  | [.d (.int .i64) r0], [] => some r0
  | _, _ => none
noncomputable def BSign.b (t1 : Int) (d1 : List Int) (t2 : Int) (d2 : List Int) : Option Int :=
  (if (t1 != t2) then (if (decide (t1 < t2)) then some ((-(1 : Int))) else some ((1 : Int))) else (if ((small d1) && (small d2)) then some ((lexB d1 d2)) else none))
noncomputable def BSign.f (fuel : Nat) (t1 : Int) (d1 : List Int) (t2 : Int) (d2 : List Int) : Option Int := BSign.b t1 d1 t2 d2
theorem BSign.eq (fuel : Nat) (t1 : Int) (d1 : List Int) (t2 : Int) (d2 : List Int) : (denF BSign_E loopN fuel Try.f104 [.raw] [.agg [.d (.int .i64) t1, .d (.sl (.int .u8)) d1], .agg [.d (.int .i64) t2, .d (.sl (.int .u8)) d2]] [] BSign.k) = BSign.f fuel t1 d1 t2 d2 := by
  kernel_rfl


noncomputable def BCmp_E : Env := ⟨th, gam [(104, s_sign)], fun i => if i = 2 then ⟨[0, 1, 5], [], []⟩ else ⟨[], [], []⟩⟩
noncomputable def BCmp.k (rs : List AV) (os : List Den.Obj) : Option Int :=
  match rs, os with
  | [.d (.int .i64) r0], [] => some r0
  | _, _ => none
noncomputable def BCmp.s2 (a : List (Int × List Int)) (b : List (Int × List Int)) (x0 : Int) : St := ⟨[.d (.sl (.pair (.int .i64) (.sl (.int .u8)))) (a), .d (.sl (.pair (.int .i64) (.sl (.int .u8)))) (b), .dead, .dead, .dead, .d (.int .i64) x0, .dead, .dead, .dead, .dead, .dead, .dead, .dead, .dead, .dead, .dead, .dead, .dead, .dead, .dead, .dead, .dead, .dead, .dead, .dead, .dead, .dead, .dead, .dead, .dead, .dead, .dead, .dead, .dead, .dead, .dead, .dead, .dead, .dead, .dead, .dead, .dead, .dead], ofL [], 0⟩
noncomputable def BCmp.b2 (a : List (Int × List Int)) (b : List (Int × List Int)) (A2 : Int → Option Int) (x0 : Int) : Option Int :=
  (if (decide (x0 < ((((List.length a)) : Nat) : Int))) then (if (decide (x0 < ((((List.length b)) : Nat) : Int))) then (match (idx a x0) with | none => none | some y1 => (match (idx b x0) with | none => none | some y2 => (if ((small y1.2) && (small y2.2)) then (if ((signF y1.1 y1.2 y2.1 y2.2) != (0 : Int)) then some ((signF y1.1 y1.2 y2.1 y2.2)) else A2 (Go.IntKind.wrap .i64 (x0 + (1 : Int)))) else none))) else (if (decide (((((List.length a)) : Nat) : Int) < ((((List.length b)) : Nat) : Int))) then some ((-(1 : Int))) else (if (decide (((((List.length a)) : Nat) : Int) > ((((List.length b)) : Nat) : Int))) then some ((1 : Int)) else some ((0 : Int))))) else (if (decide (((((List.length a)) : Nat) : Int) < ((((List.length b)) : Nat) : Int))) then some ((-(1 : Int))) else (if (decide (((((List.length a)) : Nat) : Int) > ((((List.length b)) : Nat) : Int))) then some ((1 : Int)) else some ((0 : Int)))))
noncomputable def BCmp.l2 (fuel : Nat) (a : List (Int × List Int)) (b : List (Int × List Int)) : Nat → Int → Option Int
  | 0, _ => none
  | k + 1, x0 => BCmp.b2 a b (BCmp.l2 fuel a b k) x0
noncomputable def BCmp.b (a : List (Int × List Int)) (b : List (Int × List Int)) (E2 : Int → Option Int) : Option Int :=
  E2 (0 : Int)
noncomputable def BCmp.f (fuel : Nat) (a : List (Int × List Int)) (b : List (Int × List Int)) : Option Int := BCmp.b a b (BCmp.l2 fuel a b fuel)
theorem BCmp.l2_eq (fuel : Nat) (a : List (Int × List Int)) (b : List (Int × List Int)) : ∀ (k : Nat) (x0 : Int), lp BCmp_E fuel Try.f101 [.raw] 0 BCmp.k 2 [] k (BCmp.s2 a b x0) = BCmp.l2 fuel a b k x0 := by
  intro k
  induction k with
  | zero => intro x0; rfl
  | succ k ih =>
    intro x0
    have h : lp BCmp_E fuel Try.f101 [.raw] 0 BCmp.k 2 [] (k + 1) (BCmp.s2 a b x0) = BCmp.b2 a b (fun x0 => lp BCmp_E fuel Try.f101 [.raw] 0 BCmp.k 2 [] k (BCmp.s2 a b x0)) x0 := by kernel_rfl
    rw [h]
    have e2 : (fun x0 => lp BCmp_E fuel Try.f101 [.raw] 0 BCmp.k 2 [] k (BCmp.s2 a b x0)) = BCmp.l2 fuel a b k := (funext fun x0 => ih x0)
    rw [e2]
    rfl
theorem BCmp.eq (fuel : Nat) (a : List (Int × List Int)) (b : List (Int × List Int)) : (denF BCmp_E loopN fuel Try.f101 [.raw] [.d (.sl (.pair (.int .i64) (.sl (.int .u8)))) a, .d (.sl (.pair (.int .i64) (.sl (.int .u8)))) b] [] BCmp.k) = BCmp.f fuel a b := by
  have h : (denF BCmp_E loopN fuel Try.f101 [.raw] [.d (.sl (.pair (.int .i64) (.sl (.int .u8)))) a, .d (.sl (.pair (.int .i64) (.sl (.int .u8)))) b] [] BCmp.k) = BCmp.b a b (fun x0 => lp BCmp_E fuel Try.f101 [.raw] 0 BCmp.k 2 [] fuel (BCmp.s2 a b x0)) := by kernel_rfl
  rw [h]
  have e2 : (fun x0 => lp BCmp_E fuel Try.f101 [.raw] 0 BCmp.k 2 [] fuel (BCmp.s2 a b x0)) = BCmp.l2 fuel a b fuel := (funext fun x0 => BCmp.l2_eq fuel a b fuel x0)
  rw [e2]
  rfl


noncomputable def BSame_E : Env := ⟨th, gam [(101, s_bcmp)], fun i => ⟨[], [], []⟩⟩
noncomputable def BSame.k (rs : List AV) (os : List Den.Obj) : Option Bool :=
  match rs, os with
  | [.d .bool r0], [] => some r0
  | _, _ => none
noncomputable def BSame.b (a : List (Int × List Int)) (b : List (Int × List Int)) : Option Bool :=
  (if ((smallBag a) && (smallBag b)) then some (((cmpGo a b) == (0 : Int))) else none)
noncomputable def BSame.f (fuel : Nat) (a : List (Int × List Int)) (b : List (Int × List Int)) : Option Bool := BSame.b a b
theorem BSame.eq (fuel : Nat) (a : List (Int × List Int)) (b : List (Int × List Int)) : (denF BSame_E loopN fuel Try.f96 [.raw] [.d (.sl (.pair (.int .i64) (.sl (.int .u8)))) a, .d (.sl (.pair (.int .i64) (.sl (.int .u8)))) b] [] BSame.k) = BSame.f fuel a b := by
  kernel_rfl


noncomputable def Alike8_E : Env := ⟨th, gam [(96, s_bsame)], fun i => ⟨[], [], []⟩⟩
noncomputable def Alike8.k (rs : List AV) (os : List Den.Obj) : Option Bool :=
  match rs, os with
  | [.d .bool r0], [] => some r0
  | _, _ => none
noncomputable def Alike8.b (rid : Int) (rinc : Int) (rst : Int) (rlo : Int) (rhi : Int) (rcut : Bool) (rbag : List (Int × List Int)) (sid : Int) (sinc : Int) (sst : Int) (slo : Int) (shi : Int) (scut : Bool) (sbag : List (Int × List Int)) : Option Bool :=
  (if (rid == sid) then (if (rinc == sinc) then (if (rst == sst) then (if (rlo == slo) then (if (rhi == shi) then (if (rcut == scut) then (if ((smallBag rbag) && (smallBag sbag)) then some (((cmpGo rbag sbag) == (0 : Int))) else none) else some (false)) else some (false)) else some (false)) else some (false)) else some (false)) else some (false))
noncomputable def Alike8.f (fuel : Nat) (rid : Int) (rinc : Int) (rst : Int) (rlo : Int) (rhi : Int) (rcut : Bool) (rbag : List (Int × List Int)) (sid : Int) (sinc : Int) (sst : Int) (slo : Int) (shi : Int) (scut : Bool) (sbag : List (Int × List Int)) : Option Bool := Alike8.b rid rinc rst rlo rhi rcut rbag sid sinc sst slo shi scut sbag
theorem Alike8.eq (fuel : Nat) (rid : Int) (rinc : Int) (rst : Int) (rlo : Int) (rhi : Int) (rcut : Bool) (rbag : List (Int × List Int)) (sid : Int) (sinc : Int) (sst : Int) (slo : Int) (shi : Int) (scut : Bool) (sbag : List (Int × List Int)) : (denF Alike8_E loopN fuel Try.f90 [.raw] [.agg [.d (.int .i64) rid, .d (.int .i64) rinc, .d (.int .i64) rst, .d (.int .i64) rlo, .d (.int .i64) rhi, .d .bool rcut, .d (.sl (.pair (.int .i64) (.sl (.int .u8)))) rbag], .agg [.d (.int .i64) sid, .d (.int .i64) sinc, .d (.int .i64) sst, .d (.int .i64) slo, .d (.int .i64) shi, .d .bool scut, .d (.sl (.pair (.int .i64) (.sl (.int .u8)))) sbag]] [] Alike8.k) = Alike8.f fuel rid rinc rst rlo rhi rcut rbag sid sinc sst slo shi scut sbag := by
  kernel_rfl


noncomputable def AllAl_E : Env := ⟨th, gam [(90, s_alike8)], fun i => if i = 4 then ⟨[0, 1, 5], [], []⟩ else ⟨[], [], []⟩⟩
noncomputable def AllAl.k (rs : List AV) (os : List Den.Obj) : Option Bool :=
  match rs, os with
  | [.d .bool r0], [] => some r0
  | _, _ => none
noncomputable def AllAl.s4 (l : List (Int × Int × Int × (Int × Int) × Bool × List (Int × List Int))) (m : List (Int × Int × Int × (Int × Int) × Bool × List (Int × List Int))) (x0 : Int) : St := ⟨[.d (.sl (.pair (.int .i64) (.pair (.int .i64) (.pair (.int .i64) (.pair (.pair (.int .i64) (.int .i64)) (.pair .bool (.sl (.pair (.int .i64) (.sl (.int .u8)))))))))) (l), .d (.sl (.pair (.int .i64) (.pair (.int .i64) (.pair (.int .i64) (.pair (.pair (.int .i64) (.int .i64)) (.pair .bool (.sl (.pair (.int .i64) (.sl (.int .u8)))))))))) (m), .dead, .dead, .dead, .d (.int .i64) x0, .dead, .dead, .dead, .dead, .dead, .dead, .dead, .dead, .dead, .dead, .dead, .dead, .dead, .dead, .dead, .dead, .dead, .dead, .dead, .dead, .dead], ofL [], 0⟩
noncomputable def AllAl.b4 (l : List (Int × Int × Int × (Int × Int) × Bool × List (Int × List Int))) (m : List (Int × Int × Int × (Int × Int) × Bool × List (Int × List Int))) (A4 : Int → Option Bool) (x0 : Int) : Option Bool :=
  (if (decide (x0 < ((((List.length l)) : Nat) : Int))) then (match (idx l x0) with | none => none | some y1 => (match (idx m x0) with | none => none | some y2 => (if ((smallBag y1.2.2.2.2.2) && (smallBag y2.2.2.2.2.2)) then (if (!(alike8 (y1.1, (y1.2.1, (y1.2.2.1, ((y1.2.2.2.1.1, y1.2.2.2.1.2), (y1.2.2.2.2.1, y1.2.2.2.2.2))))) (y2.1, (y2.2.1, (y2.2.2.1, ((y2.2.2.2.1.1, y2.2.2.2.1.2), (y2.2.2.2.2.1, y2.2.2.2.2.2))))))) then some (false) else A4 (Go.IntKind.wrap .i64 (x0 + (1 : Int)))) else none))) else some (true))
noncomputable def AllAl.l4 (fuel : Nat) (l : List (Int × Int × Int × (Int × Int) × Bool × List (Int × List Int))) (m : List (Int × Int × Int × (Int × Int) × Bool × List (Int × List Int))) : Nat → Int → Option Bool
  | 0, _ => none
  | k + 1, x0 => AllAl.b4 l m (AllAl.l4 fuel l m k) x0
noncomputable def AllAl.b (l : List (Int × Int × Int × (Int × Int) × Bool × List (Int × List Int))) (m : List (Int × Int × Int × (Int × Int) × Bool × List (Int × List Int))) (E4 : Int → Option Bool) : Option Bool :=
  (if (((((List.length l)) : Nat) : Int) != ((((List.length m)) : Nat) : Int)) then some (false) else E4 (0 : Int))
noncomputable def AllAl.f (fuel : Nat) (l : List (Int × Int × Int × (Int × Int) × Bool × List (Int × List Int))) (m : List (Int × Int × Int × (Int × Int) × Bool × List (Int × List Int))) : Option Bool := AllAl.b l m (AllAl.l4 fuel l m fuel)
theorem AllAl.l4_eq (fuel : Nat) (l : List (Int × Int × Int × (Int × Int) × Bool × List (Int × List Int))) (m : List (Int × Int × Int × (Int × Int) × Bool × List (Int × List Int))) : ∀ (k : Nat) (x0 : Int), lp AllAl_E fuel Try.f61 [.raw] 0 AllAl.k 4 [] k (AllAl.s4 l m x0) = AllAl.l4 fuel l m k x0 := by
  intro k
  induction k with
  | zero => intro x0; rfl
  | succ k ih =>
    intro x0
    have h : lp AllAl_E fuel Try.f61 [.raw] 0 AllAl.k 4 [] (k + 1) (AllAl.s4 l m x0) = AllAl.b4 l m (fun x0 => lp AllAl_E fuel Try.f61 [.raw] 0 AllAl.k 4 [] k (AllAl.s4 l m x0)) x0 := by kernel_rfl
    rw [h]
    have e4 : (fun x0 => lp AllAl_E fuel Try.f61 [.raw] 0 AllAl.k 4 [] k (AllAl.s4 l m x0)) = AllAl.l4 fuel l m k := (funext fun x0 => ih x0)
    rw [e4]
    rfl
theorem AllAl.eq (fuel : Nat) (l : List (Int × Int × Int × (Int × Int) × Bool × List (Int × List Int))) (m : List (Int × Int × Int × (Int × Int) × Bool × List (Int × List Int))) : (denF AllAl_E loopN fuel Try.f61 [.raw] [.d (.sl (.pair (.int .i64) (.pair (.int .i64) (.pair (.int .i64) (.pair (.pair (.int .i64) (.int .i64)) (.pair .bool (.sl (.pair (.int .i64) (.sl (.int .u8)))))))))) l, .d (.sl (.pair (.int .i64) (.pair (.int .i64) (.pair (.int .i64) (.pair (.pair (.int .i64) (.int .i64)) (.pair .bool (.sl (.pair (.int .i64) (.sl (.int .u8)))))))))) m] [] AllAl.k) = AllAl.f fuel l m := by
  have h : (denF AllAl_E loopN fuel Try.f61 [.raw] [.d (.sl (.pair (.int .i64) (.pair (.int .i64) (.pair (.int .i64) (.pair (.pair (.int .i64) (.int .i64)) (.pair .bool (.sl (.pair (.int .i64) (.sl (.int .u8)))))))))) l, .d (.sl (.pair (.int .i64) (.pair (.int .i64) (.pair (.int .i64) (.pair (.pair (.int .i64) (.int .i64)) (.pair .bool (.sl (.pair (.int .i64) (.sl (.int .u8)))))))))) m] [] AllAl.k) = AllAl.b l m (fun x0 => lp AllAl_E fuel Try.f61 [.raw] 0 AllAl.k 4 [] fuel (AllAl.s4 l m x0)) := by kernel_rfl
  rw [h]
  have e4 : (fun x0 => lp AllAl_E fuel Try.f61 [.raw] 0 AllAl.k 4 [] fuel (AllAl.s4 l m x0)) = AllAl.l4 fuel l m fuel := (funext fun x0 => AllAl.l4_eq fuel l m fuel x0)
  rw [e4]
  rfl


noncomputable def Alike10_E : Env := ⟨th, gam [(61, s_allal)], fun i => ⟨[], [], []⟩⟩
noncomputable def Alike10.k (rs : List AV) (os : List Den.Obj) : Option Bool :=
  match rs, os with
  | [.d .bool r0], [] => some r0
  | _, _ => none
noncomputable def Alike10.b (mkind : Int) (mfrom0 : Int) (minc : Int) (mlo : Int) (mhi : Int) (mseq : Int) (mtarget : Int) (mlife : Int) (mepoch : Int) (mbase : Int) (mrecs : List (Int × Int × Int × (Int × Int) × Bool × List (Int × List Int))) (nkind : Int) (nfrom0 : Int) (ninc : Int) (nlo : Int) (nhi : Int) (nseq : Int) (ntarget : Int) (nlife : Int) (nepoch : Int) (nbase : Int) (nrecs : List (Int × Int × Int × (Int × Int) × Bool × List (Int × List Int))) : Option Bool :=
  (if (mkind != nkind) then some (false) else (if (mfrom0 != nfrom0) then some (false) else (if (minc != ninc) then some (false) else (if (mlo != nlo) then some (false) else (if (mhi != nhi) then some (false) else (if (mseq != nseq) then some (false) else (if (mtarget != ntarget) then some (false) else (if (mlife == nlife) then (if (mepoch == nepoch) then (if (mbase == nbase) then (if ((smallRecs mrecs) && (smallRecs nrecs)) then some ((allGo mrecs nrecs)) else none) else some (false)) else some (false)) else some (false)))))))))
noncomputable def Alike10.f (fuel : Nat) (mkind : Int) (mfrom0 : Int) (minc : Int) (mlo : Int) (mhi : Int) (mseq : Int) (mtarget : Int) (mlife : Int) (mepoch : Int) (mbase : Int) (mrecs : List (Int × Int × Int × (Int × Int) × Bool × List (Int × List Int))) (nkind : Int) (nfrom0 : Int) (ninc : Int) (nlo : Int) (nhi : Int) (nseq : Int) (ntarget : Int) (nlife : Int) (nepoch : Int) (nbase : Int) (nrecs : List (Int × Int × Int × (Int × Int) × Bool × List (Int × List Int))) : Option Bool := Alike10.b mkind mfrom0 minc mlo mhi mseq mtarget mlife mepoch mbase mrecs nkind nfrom0 ninc nlo nhi nseq ntarget nlife nepoch nbase nrecs
theorem Alike10.eq (fuel : Nat) (mkind : Int) (mfrom0 : Int) (minc : Int) (mlo : Int) (mhi : Int) (mseq : Int) (mtarget : Int) (mlife : Int) (mepoch : Int) (mbase : Int) (mrecs : List (Int × Int × Int × (Int × Int) × Bool × List (Int × List Int))) (nkind : Int) (nfrom0 : Int) (ninc : Int) (nlo : Int) (nhi : Int) (nseq : Int) (ntarget : Int) (nlife : Int) (nepoch : Int) (nbase : Int) (nrecs : List (Int × Int × Int × (Int × Int) × Bool × List (Int × List Int))) : (denF Alike10_E loopN fuel Try.f24 [.raw] [.agg [.d (.int .i64) mkind, .d (.int .i64) mfrom0, .d (.int .i64) minc, .d (.int .i64) mlo, .d (.int .i64) mhi, .d (.int .i64) mseq, .d (.int .i64) mtarget, .d (.int .i64) mlife, .d (.int .i64) mepoch, .d (.int .i64) mbase, .d (.sl (.pair (.int .i64) (.pair (.int .i64) (.pair (.int .i64) (.pair (.pair (.int .i64) (.int .i64)) (.pair .bool (.sl (.pair (.int .i64) (.sl (.int .u8)))))))))) mrecs], .agg [.d (.int .i64) nkind, .d (.int .i64) nfrom0, .d (.int .i64) ninc, .d (.int .i64) nlo, .d (.int .i64) nhi, .d (.int .i64) nseq, .d (.int .i64) ntarget, .d (.int .i64) nlife, .d (.int .i64) nepoch, .d (.int .i64) nbase, .d (.sl (.pair (.int .i64) (.pair (.int .i64) (.pair (.int .i64) (.pair (.pair (.int .i64) (.int .i64)) (.pair .bool (.sl (.pair (.int .i64) (.sl (.int .u8)))))))))) nrecs]] [] Alike10.k) = Alike10.f fuel mkind mfrom0 minc mlo mhi mseq mtarget mlife mepoch mbase mrecs nkind nfrom0 ninc nlo nhi nseq ntarget nlife nepoch nbase nrecs := by
  kernel_rfl


noncomputable def Gen1Back_E : Env := ⟨th, gam [(15, s_few10), (19, s_fitsL), (16, s_awake11), (17, s_enc), (22, s_decb), (24, s_alike10)], fun i => ⟨[], [], []⟩⟩
noncomputable def Gen1Back.k (rs : List AV) (os : List Den.Obj) : Option Bool :=
  match rs, os with
  | [.d .bool r0], [] => some r0
  | _, _ => none
noncomputable def Gen1Back.b (mkind : Int) (mfrom0 : Int) (minc : Int) (mlo : Int) (mhi : Int) (mseq : Int) (mtarget : Int) (mlife : Int) (mepoch : Int) (mbase : Int) (mrecs : List (Int × Int × Int × (Int × Int) × Bool × List (Int × List Int))) : Option Bool :=
  (if (smallRecs mrecs) then (if (!(few8 mrecs)) then some (true) else (if (smallRecs mrecs) then (if (!(fitsL mkind mfrom0 minc mlo mhi mseq mtarget mlife mepoch mbase mrecs)) then some (true) else (if (smallRecs mrecs) then (if (inB (encF mkind mfrom0 minc mlo mhi mseq mtarget mlife mepoch mbase mrecs).1) then (match (veil (Option.some (decF (encF mkind mfrom0 minc mlo mhi mseq mtarget mlife mepoch mbase mrecs).1))) with | none => none | some y0 => (if ((encF mkind mfrom0 minc mlo mhi mseq mtarget mlife mepoch mbase mrecs).2 == (0 : Int)) then (if (y0.2.2.2.2.2.2.2.2 == (0 : Int)) then (if ((smallRecs y0.2.2.2.2.2.2.2.1) && (smallRecs mrecs)) then (if ((y0.1 == mkind) && ((y0.2.1 == mfrom0) && ((y0.2.2.1 == minc) && ((y0.2.2.2.1 == mlo) && ((y0.2.2.2.2.1 == mhi) && ((y0.2.2.2.2.2.1 == mseq) && ((y0.2.2.2.2.2.2.1 == mtarget) && ((0 == mlife) && ((0 == mepoch) && ((0 == mbase) && (allGo y0.2.2.2.2.2.2.2.1 mrecs))))))))))) then some (true) else some (false)) else none) else some (false)) else some (false))) else none) else none)) else none)) else none)
noncomputable def Gen1Back.f (fuel : Nat) (mkind : Int) (mfrom0 : Int) (minc : Int) (mlo : Int) (mhi : Int) (mseq : Int) (mtarget : Int) (mlife : Int) (mepoch : Int) (mbase : Int) (mrecs : List (Int × Int × Int × (Int × Int) × Bool × List (Int × List Int))) : Option Bool := Gen1Back.b mkind mfrom0 minc mlo mhi mseq mtarget mlife mepoch mbase mrecs
theorem Gen1Back.eq (fuel : Nat) (mkind : Int) (mfrom0 : Int) (minc : Int) (mlo : Int) (mhi : Int) (mseq : Int) (mtarget : Int) (mlife : Int) (mepoch : Int) (mbase : Int) (mrecs : List (Int × Int × Int × (Int × Int) × Bool × List (Int × List Int))) : (denF Gen1Back_E loopN fuel Try.f6 [.raw] [.agg [.d (.int .i64) mkind, .d (.int .i64) mfrom0, .d (.int .i64) minc, .d (.int .i64) mlo, .d (.int .i64) mhi, .d (.int .i64) mseq, .d (.int .i64) mtarget, .d (.int .i64) mlife, .d (.int .i64) mepoch, .d (.int .i64) mbase, .d (.sl (.pair (.int .i64) (.pair (.int .i64) (.pair (.int .i64) (.pair (.pair (.int .i64) (.int .i64)) (.pair .bool (.sl (.pair (.int .i64) (.sl (.int .u8)))))))))) mrecs]] [] Gen1Back.k) = Gen1Back.f fuel mkind mfrom0 minc mlo mhi mseq mtarget mlife mepoch mbase mrecs := by
  kernel_rfl


end Go.Proofs.Ytlmljpmohljefaa

set_option linter.unusedVariables false
set_option linter.unusedSimpArgs false
namespace Go.Proofs.Ytlmljpmohljefaa
open Go.Den
theorem small_iff (l : List Int) : small l = true ↔ l.length < 281474976710656 := by unfold small; simp
theorem IsNaN.pure (x : Int) : IsNaN.f 0 x = some false := by
  unfold IsNaN.f IsNaN.b
  simp
theorem CmpB.pure (x y : Int) : CmpB.f 0 x y = some (if decide (x < y) then -1 else if decide (x > y) then 1 else 0) := by
  unfold CmpB.f CmpB.b
  split
  · rfl
  · split <;> rfl
theorem SlCmp.loop (fuel : Nat) (l m : List Int) (h1 : l.length < 281474976710656) : ∀ (k i : Nat), i ≤ l.length → i ≤ m.length → l.length - i < k → SlCmp.l2 fuel l m k (l.length : Int) (i : Int) = some (lexB (l.drop i) (m.drop i)) := by
  intro k
  induction k with
  | zero => intro i a b c; omega
  | succ k ih =>
    intro i a b c
    rw [SlCmp.l2]
    unfold SlCmp.b2
    by_cases hi : i < l.length
    · rw [if_pos (by simp; omega), idx_at, List.getElem?_eq_getElem hi, List.drop_eq_getElem_cons hi]
      dsimp only
      by_cases hm : i < m.length
      · rw [if_neg (by simp; omega), idx_at, List.getElem?_eq_getElem hm, List.drop_eq_getElem_cons hm]
        dsimp only
        unfold lexB
        by_cases c1 : l[i] < m[i]
        · simp [c1]
        · by_cases c2 : l[i] > m[i]
          · simp [c1, c2]
          · simp only [c1, c2, decide_false, Bool.false_eq_true, if_false, bne_self_eq_false]
            rw [wrap_small _ (by omega) (by omega)]
            exact ih (i + 1) (by omega) (by omega) (by omega)
      · rw [if_pos (by simp; omega), List.drop_of_length_le (by omega : m.length ≤ i)]
        rfl
    · rw [if_neg (by simp; omega), List.drop_of_length_le (by omega : l.length ≤ i)]
      by_cases hm : i < m.length
      · rw [if_pos (by simp; omega), List.drop_eq_getElem_cons hm]
        rfl
      · rw [if_neg (by simp; omega), List.drop_of_length_le (by omega : m.length ≤ i)]
        rfl
theorem SlCmp.pure (l m : List Int) (hl : (small l && small m) = true) : SlCmp.f (l.length + 1) l m = some (lexB l m) := by
  rw [Bool.and_eq_true, small_iff, small_iff] at hl
  unfold SlCmp.f SlCmp.b
  exact SlCmp.loop _ l m hl.1 _ 0 (by omega) (by omega) (by omega)
theorem BSign.pure (t1 : Int) (d1 : List Int) (t2 : Int) (d2 : List Int) (hl : (small d1 && small d2) = true) : BSign.f 0 t1 d1 t2 d2 = some (signF t1 d1 t2 d2) := by
  unfold BSign.f BSign.b signF
  rw [hl]
  split
  · split <;> rfl
  · rfl
theorem small_of {b : List (Int × List Int)} (h : smallBag b = true) (i : Nat) (hi : i < b.length) : small b[i].2 = true := (small_iff _).2 (((smallBag_iff b).1 h).2 _ (List.getElem_mem hi))
theorem BCmp.loop (fuel : Nat) (a b : List (Int × List Int)) (ha : smallBag a = true) (hb : smallBag b = true) : ∀ (k i : Nat), i ≤ a.length → i ≤ b.length → a.length - i < k → BCmp.l2 fuel a b k (i : Int) = some (cmpGo (a.drop i) (b.drop i)) := by
  have hla := ((smallBag_iff a).1 ha).1
  intro k
  induction k with
  | zero => intro i h1 h2 h3; omega
  | succ k ih =>
    intro i h1 h2 h3
    rw [BCmp.l2]
    unfold BCmp.b2
    by_cases hi : i < a.length
    · rw [if_pos (by simp; omega)]
      by_cases hm : i < b.length
      · rw [if_pos (by simp; omega), idx_at, List.getElem?_eq_getElem hi, idx_at, List.getElem?_eq_getElem hm, List.drop_eq_getElem_cons hi, List.drop_eq_getElem_cons hm]
        dsimp only
        rw [small_of ha i hi, small_of hb i hm, Bool.and_self, if_pos rfl, wrap_small _ (by omega) (by omega)]
        unfold cmpGo
        split
        · rfl
        · exact ih (i + 1) (by omega) (by omega) (by omega)
      · rw [if_neg (by simp; omega), List.drop_eq_getElem_cons hi, List.drop_of_length_le (by omega : b.length ≤ i), if_neg (by simp; omega), if_pos (by simp; omega)]
        rfl
    · rw [if_neg (by simp; omega), List.drop_of_length_le (by omega : a.length ≤ i)]
      by_cases hm : i < b.length
      · rw [if_pos (by simp; omega), List.drop_eq_getElem_cons hm]
        rfl
      · rw [if_neg (by simp; omega), if_neg (by simp; omega), List.drop_of_length_le (by omega : b.length ≤ i)]
        rfl
theorem BCmp.pure (a b : List (Int × List Int)) (hl : (smallBag a && smallBag b) = true) : BCmp.f (a.length + 1) a b = some (cmpGo a b) := by
  rw [Bool.and_eq_true] at hl
  unfold BCmp.f BCmp.b
  exact BCmp.loop _ a b hl.1 hl.2 _ 0 (by omega) (by omega) (by omega)
theorem BSame.pure (a b : List (Int × List Int)) (hl : (smallBag a && smallBag b) = true) : BSame.f 0 a b = some (cmpGo a b == 0) := by
  unfold BSame.f BSame.b
  rw [hl]; rfl
theorem Alike8.pure (rid rinc rst rlo rhi : Int) (rcut : Bool) (rbag : List (Int × List Int)) (sid sinc sst slo shi : Int) (scut : Bool) (sbag : List (Int × List Int)) (hl : (smallBag rbag && smallBag sbag) = true) :
    Alike8.f 0 rid rinc rst rlo rhi rcut rbag sid sinc sst slo shi scut sbag = some (alike8 (rid, rinc, rst, (rlo, rhi), rcut, rbag) (sid, sinc, sst, (slo, shi), scut, sbag)) := by
  unfold Alike8.f Alike8.b alike8
  rw [hl]
  dsimp only
  cases (rid == sid)
  · rfl
  cases (rinc == sinc)
  · rfl
  cases (rst == sst)
  · rfl
  cases (rlo == slo)
  · rfl
  cases (rhi == shi)
  · rfl
  cases (rcut == scut) <;> rfl
theorem AllAl.loop (fuel : Nat) (l m : List (Int × Int × Int × (Int × Int) × Bool × List (Int × List Int))) (hl : smallRecs l = true) (hm : smallRecs m = true) (he : l.length = m.length) : ∀ (k i : Nat), i ≤ l.length → l.length - i < k → AllAl.l4 fuel l m k (i : Int) = some (allGo (l.drop i) (m.drop i)) := by
  obtain ⟨h1, h2⟩ := (smallRecs_iff l).1 hl
  obtain ⟨h3, h4⟩ := (smallRecs_iff m).1 hm
  intro k
  induction k with
  | zero => intro i a b; omega
  | succ k ih =>
    intro i a b
    rw [AllAl.l4]
    unfold AllAl.b4
    by_cases hi : i < l.length
    · rw [if_pos (by simp; omega), idx_at, List.getElem?_eq_getElem hi, idx_at, List.getElem?_eq_getElem (by omega), List.drop_eq_getElem_cons hi, List.drop_eq_getElem_cons (by omega : i < m.length)]
      dsimp only
      rw [h2 l[i] (List.getElem_mem hi), h4 m[i] (List.getElem_mem (by omega)), Bool.and_self, if_pos rfl, wrap_small _ (by omega) (by omega)]
      unfold allGo
      cases alike8 l[i] m[i]
      · rfl
      · exact ih (i + 1) (by omega) (by omega)
    · rw [if_neg (by simp; omega), List.drop_of_length_le (by omega : l.length ≤ i), List.drop_of_length_le (by omega : m.length ≤ i)]
      rfl
theorem allGo_len : ∀ (l m : List (Int × Int × Int × (Int × Int) × Bool × List (Int × List Int))), l.length ≠ m.length → allGo l m = false
  | [], [], h => absurd rfl h
  | [], _ :: _, _ => rfl
  | _ :: _, [], _ => rfl
  | a :: l, b :: m, h => by
    unfold allGo
    rw [allGo_len l m (fun e => h (by simp [e])), Bool.and_false]
theorem AllAl.pure (l m : List (Int × Int × Int × (Int × Int) × Bool × List (Int × List Int))) (hl : (smallRecs l && smallRecs m) = true) : AllAl.f (l.length + 1) l m = some (allGo l m) := by
  rw [Bool.and_eq_true] at hl
  unfold AllAl.f AllAl.b
  by_cases h : l.length = m.length
  · rw [if_neg (by simp; omega)]
    exact AllAl.loop _ l m hl.1 hl.2 h _ 0 (by omega) (by omega)
  · rw [if_pos (by simp; omega), allGo_len l m h]
theorem Alike10.pure (mkind mfrom0 minc mlo mhi mseq mtarget mlife mepoch mbase : Int) (mrecs : List (Int × Int × Int × (Int × Int) × Bool × List (Int × List Int))) (nkind nfrom0 ninc nlo nhi nseq ntarget nlife nepoch nbase : Int) (nrecs : List (Int × Int × Int × (Int × Int) × Bool × List (Int × List Int))) (hl : (smallRecs mrecs && smallRecs nrecs) = true) :
    Alike10.f 0 mkind mfrom0 minc mlo mhi mseq mtarget mlife mepoch mbase mrecs nkind nfrom0 ninc nlo nhi nseq ntarget nlife nepoch nbase nrecs = some (mkind == nkind && (mfrom0 == nfrom0 && (minc == ninc && (mlo == nlo && (mhi == nhi && (mseq == nseq && (mtarget == ntarget && (mlife == nlife && (mepoch == nepoch && (mbase == nbase && allGo mrecs nrecs)))))))))) := by
  unfold Alike10.f Alike10.b
  rw [hl]
  by_cases a1 : mkind = nkind
  case neg => simp [a1]
  by_cases a2 : mfrom0 = nfrom0
  case neg => simp [a1, a2]
  by_cases a3 : minc = ninc
  case neg => simp [a1, a2, a3]
  by_cases a4 : mlo = nlo
  case neg => simp [a1, a2, a3, a4]
  by_cases a5 : mhi = nhi
  case neg => simp [a1, a2, a3, a4, a5]
  by_cases a6 : mseq = nseq
  case neg => simp [a1, a2, a3, a4, a5, a6]
  by_cases a7 : mtarget = ntarget
  case neg => simp [a1, a2, a3, a4, a5, a6, a7]
  by_cases a8 : mlife = nlife
  case neg => simp [a1, a2, a3, a4, a5, a6, a7, a8]
  by_cases a9 : mepoch = nepoch
  case neg => simp [a1, a2, a3, a4, a5, a6, a7, a8, a9]
  by_cases a10 : mbase = nbase <;> simp [a1, a2, a3, a4, a5, a6, a7, a8, a9, a10]
theorem lexB_self : ∀ (l : List Int), lexB l l = 0
  | [] => rfl
  | x :: l => by
    unfold lexB
    simp [lexB_self l]
theorem cmpGo_self : ∀ (l : List (Int × List Int)), cmpGo l l = 0
  | [] => rfl
  | x :: l => by
    unfold cmpGo
    have : signF x.1 x.2 x.1 x.2 = 0 := by unfold signF; simp [lexB_self]
    rw [this]
    simp [cmpGo_self l]
theorem allGo_self : ∀ (l : List (Int × Int × Int × (Int × Int) × Bool × List (Int × List Int))), allGo l l = true
  | [] => rfl
  | a :: l => by
    unfold allGo alike8
    simp [cmpGo_self, allGo_self l]
end Go.Proofs.Ytlmljpmohljefaa

set_option linter.unusedVariables false
namespace Go.Proofs.Ytlmljpmohljefaa
open Go.Den
theorem s_isnan_det : SumDet s_isnan := fun avs objs R κ => by
  show s_isnan.run avs objs (two κ) = (s_isnan.run avs objs (two some)).bind κ
  unfold s_isnan
  simp only
  split
  · first | rfl | (split <;> rfl)
  · rfl
theorem s_isnan_ok : SumOk Try.prog 109 s_isnan := by
  have hE : EnvOk Try.prog IsNaN_E := env_ok (l := []) th_ok any_ok trivial _
  refine sum_ok hE Try.func109 rfl (by kernel_rfl) s_isnan [.raw] IsNaN.k ?_
  intro R avs objs κ r h
  unfold s_isnan at h
  simp only at h
  split at h
  · rename_i x
    refine ⟨0, _, _, _, (IsNaN.eq (0) x).trans (IsNaN.pure x), ?_, h⟩
    intro rs ros hk
    unfold IsNaN.k at hk
    split at hk
    · first | (cases hk; exact ⟨rfl, rfl⟩) | (have e := Option.some.inj hk; rw [← e]; exact ⟨rfl, rfl⟩)
    · cases hk
  · cases h
theorem s_cmpb_det : SumDet s_cmpb := fun avs objs R κ => by
  show s_cmpb.run avs objs (two κ) = (s_cmpb.run avs objs (two some)).bind κ
  unfold s_cmpb
  simp only
  split
  · first | rfl | (split <;> rfl)
  · rfl
theorem s_cmpb_ok : SumOk Try.prog 108 s_cmpb := by
  have hE : EnvOk Try.prog CmpB_E := env_ok (l := [(109, s_isnan)]) th_ok any_ok ⟨⟨s_isnan_ok, s_isnan_det⟩, trivial⟩ _
  refine sum_ok hE Try.func108 rfl (by kernel_rfl) s_cmpb [.raw] CmpB.k ?_
  intro R avs objs κ r h
  unfold s_cmpb at h
  simp only at h
  split at h
  · rename_i x y
    refine ⟨0, _, _, _, (CmpB.eq (0) x y).trans (CmpB.pure x y), ?_, h⟩
    intro rs ros hk
    unfold CmpB.k at hk
    split at hk
    · first | (cases hk; exact ⟨rfl, rfl⟩) | (have e := Option.some.inj hk; rw [← e]; exact ⟨rfl, rfl⟩)
    · cases hk
  · cases h
theorem s_slcmp_det : SumDet s_slcmp := fun avs objs R κ => by
  show s_slcmp.run avs objs (two κ) = (s_slcmp.run avs objs (two some)).bind κ
  unfold s_slcmp
  simp only
  split
  · first | rfl | (split <;> rfl)
  · rfl
theorem s_slcmp_ok : SumOk Try.prog 106 s_slcmp := by
  have hE : EnvOk Try.prog SlCmp_E := env_ok (l := [(108, s_cmpb)]) th_ok any_ok ⟨⟨s_cmpb_ok, s_cmpb_det⟩, trivial⟩ _
  refine sum_ok hE Try.func106 rfl (by kernel_rfl) s_slcmp [.raw] SlCmp.k ?_
  intro R avs objs κ r h
  unfold s_slcmp at h
  simp only at h
  split at h
  · rename_i l m
    split at h
    case isFalse => cases h
    rename_i hl
    refine ⟨l.length + 1, _, _, _, (SlCmp.eq (l.length + 1) l m).trans (SlCmp.pure l m hl), ?_, h⟩
    intro rs ros hk
    unfold SlCmp.k at hk
    split at hk
    · first | (cases hk; exact ⟨rfl, rfl⟩) | (have e := Option.some.inj hk; rw [← e]; exact ⟨rfl, rfl⟩)
    · cases hk
  · cases h
theorem s_sign_det : SumDet s_sign := fun avs objs R κ => by
  show s_sign.run avs objs (two κ) = (s_sign.run avs objs (two some)).bind κ
  unfold s_sign
  simp only
  split
  · first | rfl | (split <;> rfl)
  · rfl
theorem s_sign_ok : SumOk Try.prog 104 s_sign := by
  have hE : EnvOk Try.prog BSign_E := env_ok (l := [(106, s_slcmp)]) th_ok any_ok ⟨⟨s_slcmp_ok, s_slcmp_det⟩, trivial⟩ _
  refine sum_ok hE Try.func104 rfl (by kernel_rfl) s_sign [.raw] BSign.k ?_
  intro R avs objs κ r h
  unfold s_sign at h
  simp only at h
  split at h
  · rename_i t1 d1 t2 d2
    split at h
    case isFalse => cases h
    rename_i hl
    refine ⟨0, _, _, _, (BSign.eq (0) t1 d1 t2 d2).trans (BSign.pure t1 d1 t2 d2 hl), ?_, h⟩
    intro rs ros hk
    unfold BSign.k at hk
    split at hk
    · first | (cases hk; exact ⟨rfl, rfl⟩) | (have e := Option.some.inj hk; rw [← e]; exact ⟨rfl, rfl⟩)
    · cases hk
  · cases h
theorem s_bcmp_det : SumDet s_bcmp := fun avs objs R κ => by
  show s_bcmp.run avs objs (two κ) = (s_bcmp.run avs objs (two some)).bind κ
  unfold s_bcmp
  simp only
  split
  · first | rfl | (split <;> rfl)
  · rfl
theorem s_bcmp_ok : SumOk Try.prog 101 s_bcmp := by
  have hE : EnvOk Try.prog BCmp_E := env_ok (l := [(104, s_sign)]) th_ok any_ok ⟨⟨s_sign_ok, s_sign_det⟩, trivial⟩ _
  refine sum_ok hE Try.func101 rfl (by kernel_rfl) s_bcmp [.raw] BCmp.k ?_
  intro R avs objs κ r h
  unfold s_bcmp at h
  simp only at h
  split at h
  · rename_i a b
    split at h
    case isFalse => cases h
    rename_i hl
    refine ⟨a.length + 1, _, _, _, (BCmp.eq (a.length + 1) a b).trans (BCmp.pure a b hl), ?_, h⟩
    intro rs ros hk
    unfold BCmp.k at hk
    split at hk
    · first | (cases hk; exact ⟨rfl, rfl⟩) | (have e := Option.some.inj hk; rw [← e]; exact ⟨rfl, rfl⟩)
    · cases hk
  · cases h
theorem s_bsame_det : SumDet s_bsame := fun avs objs R κ => by
  show s_bsame.run avs objs (two κ) = (s_bsame.run avs objs (two some)).bind κ
  unfold s_bsame
  simp only
  split
  · first | rfl | (split <;> rfl)
  · rfl
theorem s_bsame_ok : SumOk Try.prog 96 s_bsame := by
  have hE : EnvOk Try.prog BSame_E := env_ok (l := [(101, s_bcmp)]) th_ok any_ok ⟨⟨s_bcmp_ok, s_bcmp_det⟩, trivial⟩ _
  refine sum_ok hE Try.func96 rfl (by kernel_rfl) s_bsame [.raw] BSame.k ?_
  intro R avs objs κ r h
  unfold s_bsame at h
  simp only at h
  split at h
  · rename_i a b
    split at h
    case isFalse => cases h
    rename_i hl
    refine ⟨0, _, _, _, (BSame.eq (0) a b).trans (BSame.pure a b hl), ?_, h⟩
    intro rs ros hk
    unfold BSame.k at hk
    split at hk
    · first | (cases hk; exact ⟨rfl, rfl⟩) | (have e := Option.some.inj hk; rw [← e]; exact ⟨rfl, rfl⟩)
    · cases hk
  · cases h
theorem s_alike8_det : SumDet s_alike8 := fun avs objs R κ => by
  show s_alike8.run avs objs (two κ) = (s_alike8.run avs objs (two some)).bind κ
  unfold s_alike8
  simp only
  split
  · first | rfl | (split <;> rfl)
  · rfl
theorem s_alike8_ok : SumOk Try.prog 90 s_alike8 := by
  have hE : EnvOk Try.prog Alike8_E := env_ok (l := [(96, s_bsame)]) th_ok any_ok ⟨⟨s_bsame_ok, s_bsame_det⟩, trivial⟩ _
  refine sum_ok hE Try.func90 rfl (by kernel_rfl) s_alike8 [.raw] Alike8.k ?_
  intro R avs objs κ r h
  unfold s_alike8 at h
  simp only at h
  split at h
  · rename_i rid rinc rst rlo rhi rcut rbag sid sinc sst slo shi scut sbag
    split at h
    case isFalse => cases h
    rename_i hl
    refine ⟨0, _, _, _, (Alike8.eq (0) rid rinc rst rlo rhi rcut rbag sid sinc sst slo shi scut sbag).trans (Alike8.pure rid rinc rst rlo rhi rcut rbag sid sinc sst slo shi scut sbag hl), ?_, h⟩
    intro rs ros hk
    unfold Alike8.k at hk
    split at hk
    · first | (cases hk; exact ⟨rfl, rfl⟩) | (have e := Option.some.inj hk; rw [← e]; exact ⟨rfl, rfl⟩)
    · cases hk
  · cases h
theorem s_allal_det : SumDet s_allal := fun avs objs R κ => by
  show s_allal.run avs objs (two κ) = (s_allal.run avs objs (two some)).bind κ
  unfold s_allal
  simp only
  split
  · first | rfl | (split <;> rfl)
  · rfl
theorem s_allal_ok : SumOk Try.prog 61 s_allal := by
  have hE : EnvOk Try.prog AllAl_E := env_ok (l := [(90, s_alike8)]) th_ok any_ok ⟨⟨s_alike8_ok, s_alike8_det⟩, trivial⟩ _
  refine sum_ok hE Try.func61 rfl (by kernel_rfl) s_allal [.raw] AllAl.k ?_
  intro R avs objs κ r h
  unfold s_allal at h
  simp only at h
  split at h
  · rename_i l m
    split at h
    case isFalse => cases h
    rename_i hl
    refine ⟨l.length + 1, _, _, _, (AllAl.eq (l.length + 1) l m).trans (AllAl.pure l m hl), ?_, h⟩
    intro rs ros hk
    unfold AllAl.k at hk
    split at hk
    · first | (cases hk; exact ⟨rfl, rfl⟩) | (have e := Option.some.inj hk; rw [← e]; exact ⟨rfl, rfl⟩)
    · cases hk
  · cases h
theorem s_alike10_det : SumDet s_alike10 := fun avs objs R κ => by
  show s_alike10.run avs objs (two κ) = (s_alike10.run avs objs (two some)).bind κ
  unfold s_alike10
  simp only
  split
  · first | rfl | (split <;> rfl)
  · rfl
theorem s_alike10_ok : SumOk Try.prog 24 s_alike10 := by
  have hE : EnvOk Try.prog Alike10_E := env_ok (l := [(61, s_allal)]) th_ok any_ok ⟨⟨s_allal_ok, s_allal_det⟩, trivial⟩ _
  refine sum_ok hE Try.func24 rfl (by kernel_rfl) s_alike10 [.raw] Alike10.k ?_
  intro R avs objs κ r h
  unfold s_alike10 at h
  simp only at h
  split at h
  · rename_i mkind mfrom0 minc mlo mhi mseq mtarget mlife mepoch mbase mrecs nkind nfrom0 ninc nlo nhi nseq ntarget nlife nepoch nbase nrecs
    split at h
    case isFalse => cases h
    rename_i hl
    refine ⟨0, _, _, _, (Alike10.eq (0) mkind mfrom0 minc mlo mhi mseq mtarget mlife mepoch mbase mrecs nkind nfrom0 ninc nlo nhi nseq ntarget nlife nepoch nbase nrecs).trans (Alike10.pure mkind mfrom0 minc mlo mhi mseq mtarget mlife mepoch mbase mrecs nkind nfrom0 ninc nlo nhi nseq ntarget nlife nepoch nbase nrecs hl), ?_, h⟩
    intro rs ros hk
    unfold Alike10.k at hk
    split at hk
    · first | (cases hk; exact ⟨rfl, rfl⟩) | (have e := Option.some.inj hk; rw [← e]; exact ⟨rfl, rfl⟩)
    · cases hk
  · cases h
end Go.Proofs.Ytlmljpmohljefaa

set_option linter.unusedVariables false
set_option linter.unusedSimpArgs false
namespace Go.Proofs.Ytlmljpmohljefaa
open Go.Den
theorem numB_be : ∀ (n : Nat) (v : Int), 0 ≤ v → v < 256 ^ n → numB (be n v) = v
  | 0, v, h0, h1 => by simp at h1; simp [be, numB]; omega
  | n + 1, v, h0, h1 => by
    have hp : v / 256 < 256 ^ n := by
      rw [Int.pow_succ] at h1
      generalize (256 : Int) ^ n = M at h1 ⊢
      omega
    have ih := numB_be n (v / 256) (by omega) hp
    show numB (be n (v / 256) ++ [v % 256]) = v
    unfold numB at ih ⊢
    rw [List.foldl_append, ih]
    simp
    omega
theorem be_mem : ∀ (n : Nat) (v c : Int), c ∈ be n v → 0 ≤ c ∧ c ≤ 255
  | 0, v, c, h => by simp [be] at h
  | n + 1, v, c, h => by
    have h' : c ∈ be n (v / 256) ++ [v % 256] := h
    rcases List.mem_append.1 h' with h | h
    · exact be_mem n _ c h
    · simp at h; omega
theorem read_be (l : List Int) (n a : Int) (v : Int) (rest : List Int) (hl : atOk l a = true) (h1 : 1 ≤ n) (h7 : n ≤ 7) (h0 : 0 ≤ v) (hv : v < 256 ^ n.toNat) (h : l.drop a.toNat = be n.toNat v ++ rest) :
    readF l n a false = (v, a + n, false) ∧ l.drop (a + n).toNat = rest ∧ atOk l (a + n) = true := by
  obtain ⟨k1, k2, k3⟩ := (atOk_iff l a).1 hl
  have hlen : l.length - a.toNat = n.toNat + rest.length := by
    have := congrArg List.length h
    simpa [be_length] using this
  have hn : (if (decide (n < 1) || decide (n > 7)) = true then (-1 : Int) else n) = n := if_neg (by simp; omega)
  have hseg : seg l a n = be n.toNat v := by
    unfold seg
    rw [List.drop_take, show (a + n).toNat = a.toNat + n.toNat from by omega, Nat.add_sub_cancel_left, h]
    exact List.take_left' (be_length _ _)
  refine ⟨?_, ?_, (atOk_iff l _).2 ⟨k1, by omega, by omega⟩⟩
  · unfold readF
    dsimp only
    rw [hn]
    have hst : stepF l n a false = (seg l a n, true, a + n, false) := by
      unfold stepF
      rw [if_neg (by simp), if_neg (by simp; omega)]
    rw [hst]
    dsimp only
    rw [if_pos rfl, hseg, numB_be _ v h0 hv]
  · rw [show (a + n).toNat = a.toNat + n.toNat from by omega, ← List.drop_drop, h]
    exact List.drop_left' (be_length _ _)
theorem one_be (l : List Int) (a : Int) (r : Int × Int × Int × (Int × Int) × Bool × List (Int × List Int)) (rest : List Int) (hl : atOk l a = true) (hr : recOkT r = true) (hi : r.2.1 ≤ 65535) (hb : r.2.2.2.2.2 = []) (h : l.drop a.toNat = recB r ++ rest) :
    oneF l a false = (r, a + 5, false) ∧ l.drop (a + 5).toNat = rest ∧ atOk l (a + 5) = true := by
  obtain ⟨id, inc, st, ⟨lo, hi'⟩, cut, bag⟩ := r
  obtain ⟨f1, f2, f3, f4, f5, f6, f7, _, _⟩ := recOk_facts hr
  obtain ⟨_, s1, s2⟩ := state_eq hr
  have f8 := (okS_iff _ _).1 f7
  dsimp only at f1 f2 f3 f5 f6 f7 f8 hi hb
  subst hb
  unfold recB at h
  dsimp only at h
  rw [List.append_assoc] at h
  obtain ⟨a1, a2, a3⟩ := read_be l 2 a id _ hl (by omega) (by omega) f1 (by simp; omega) h
  rw [List.append_assoc] at a2
  obtain ⟨b1, b2, b3⟩ := read_be l 2 (a + 2) inc _ a3 (by omega) (by omega) f3 (by simp; omega) a2
  obtain ⟨c1, c2, c3⟩ := read_be l 1 (a + 2 + 2) _ rest b3 (by omega) (by omega) s1 (by simpa using s2) b2
  have e5 : a + 2 + 2 + 1 = a + 5 := by omega
  rw [e5] at c1 c2 c3
  refine ⟨?_, c2, c3⟩
  unfold oneF
  dsimp only
  rw [a1]
  dsimp only
  rw [b1]
  dsimp only
  rw [c1]
  dsimp only
  have hs : stateL (id, inc, st, (lo, hi'), cut, ([] : List (Int × List Int))) = (if cut then st + 4 * lo + 16 * hi' + 64 else st + 4 * lo + 16 * hi') := rfl
  rw [hs]
  cases cut
  · simp only [Bool.false_eq_true, if_false]
    rw [if_neg (by simp; omega)]
    have e1 : (st + 4 * lo + 16 * hi') % 4 = st := by omega
    have e2 : (st + 4 * lo + 16 * hi') / 4 % 4 = lo := by omega
    have e3 : (st + 4 * lo + 16 * hi') / 16 % 4 = hi' := by omega
    have e4 : ((st + 4 * lo + 16 * hi') / 64 % 2 == 1) = false := by simp; omega
    rw [e1, e2, e3, e4]
  · simp only [if_true]
    rw [if_neg (by simp; omega)]
    have e1 : (st + 4 * lo + 16 * hi' + 64) % 4 = st := by omega
    have e2 : (st + 4 * lo + 16 * hi' + 64) / 4 % 4 = lo := by omega
    have e3 : (st + 4 * lo + 16 * hi' + 64) / 16 % 4 = hi' := by omega
    have e4 : ((st + 4 * lo + 16 * hi' + 64) / 64 % 2 == 1) = true := by simp; omega
    rw [e1, e2, e3, e4]
theorem dec_be (l : List Int) : ∀ (recs : List (Int × Int × Int × (Int × Int) × Bool × List (Int × List Int))) (a : Int) (rest : List Int), atOk l a = true → (∀ r ∈ recs, recOkT r = true ∧ r.2.1 ≤ 65535 ∧ r.2.2.2.2.2 = []) → l.drop a.toNat = recs.flatMap recB ++ rest →
    ∃ a', decGo l recs.length a false = (recs, a', false) ∧ l.drop a'.toNat = rest ∧ atOk l a' = true
  | [], a, rest, hl, _, h => ⟨a, rfl, by simpa using h, hl⟩
  | r :: recs, a, rest, hl, hr, h => by
    obtain ⟨r1, r2, r3⟩ := hr r (by simp)
    rw [List.flatMap_cons, List.append_assoc] at h
    obtain ⟨o1, o2, o3⟩ := one_be l a r _ hl r1 r2 r3 h
    obtain ⟨a', d1, d2, d3⟩ := dec_be l recs (a + 5) rest o3 (fun x hx => hr x (by simp [hx])) o2
    refine ⟨a', ?_, d2, d3⟩
    rw [List.length_cons, decGo, if_neg (by simp), o1]
    dsimp only
    rw [d1]
theorem of_code {lo hi : Int} (h : okS lo hi = true) : ofGo allF (lo * 16 + hi) = (lo, hi, true) := by
  have := (okS_iff lo hi).1 h
  have h1 : lo = 1 ∨ lo = 2 ∨ lo = 3 := by omega
  have h2 : hi = 1 ∨ hi = 2 ∨ hi = 3 := by omega
  rcases h1 with rfl | rfl | rfl <;> rcases h2 with rfl | rfl | rfl <;> first | omega | rfl
theorem body_bytes (kind from0 inc lo hi seq target : Int) (recs : List (Int × Int × Int × (Int × Int) × Bool × List (Int × List Int))) (hlen : recs.length ≤ 255) : inB (bodyF kind from0 inc lo hi seq target recs) = true := by
  have hm : ∀ (l : List (Int × Int × Int × (Int × Int) × Bool × List (Int × List Int))), (l.flatMap recB).length = 5 * l.length := by
    intro l
    induction l with
    | nil => rfl
    | cons x l ih => rw [List.flatMap_cons, List.length_append, ih, recB_length, List.length_cons]; omega
  refine (inB_iff _).2 ⟨?_, fun c hc => ?_⟩
  · unfold bodyF headB
    simp only [List.length_append, be_length, hm]
    omega
  · unfold bodyF headB at hc
    simp only [List.mem_append, List.mem_flatMap] at hc
    rcases hc with (hc | hc | hc | hc | hc | hc | hc) | ⟨r, _, hc⟩
    all_goals first | exact be_mem _ _ c hc | skip
    unfold recB at hc
    simp only [List.mem_append] at hc
    rcases hc with hc | hc | hc <;> exact be_mem _ _ c hc
theorem back (kind from0 inc lo hi seq target : Int) (recs : List (Int × Int × Int × (Int × Int) × Bool × List (Int × List Int))) (h : fits1 kind from0 inc lo hi seq target 0 0 0 recs = true) :
    decF (bodyF kind from0 inc lo hi seq target recs) = (kind, from0, inc, lo, hi, seq, target, recs, 0) := by
  have hf := h
  rw [fits_same] at hf
  obtain ⟨hv, hx⟩ := fits_facts hf
  obtain ⟨v1, v2, v3, v4, v5, v6, v7, v8, v9, v10, v11, _, v12, v13⟩ := valid_facts hv
  have v14 := (okS_iff _ _).1 v7
  have hb := body_bytes kind from0 inc lo hi seq target recs v12
  have h0 : atOk (bodyF kind from0 inc lo hi seq target recs) 0 = true := (atOk_iff _ 0).2 ⟨hb, by omega, by omega⟩
  generalize hl : bodyF kind from0 inc lo hi seq target recs = l at *
  have e0 : l.drop (0 : Int).toNat = be (Int.toNat 1) kind ++ (be 2 from0 ++ (be 6 inc ++ (be 1 (lo * 16 + hi) ++ (be 2 seq ++ (be 2 target ++ (be 1 (recs.length : Int) ++ (recs.flatMap recB ++ []))))))) := by
    rw [← hl]
    simp [bodyF, headB, n1]
  obtain ⟨a1, a2, a3⟩ := read_be l 1 0 kind _ h0 (by omega) (by omega) (by omega) (by simp; omega) e0
  obtain ⟨b1, b2, b3⟩ := read_be l 2 _ from0 _ a3 (by omega) (by omega) v3 (by simp; omega) a2
  obtain ⟨c1, c2, c3⟩ := read_be l 6 _ inc _ b3 (by omega) (by omega) v5 (by simp; omega) b2
  obtain ⟨d1, d2, d3⟩ := read_be l 1 _ (lo * 16 + hi) _ c3 (by omega) (by omega) (by omega) (by simp; omega) c2
  obtain ⟨f1, f2, f3⟩ := read_be l 2 _ seq _ d3 (by omega) (by omega) v8 (by simp; omega) d2
  obtain ⟨g1, g2, g3⟩ := read_be l 2 _ target _ f3 (by omega) (by omega) v10 (by simp; omega) f2
  obtain ⟨i1, i2, i3⟩ := read_be l 1 _ (recs.length : Int) _ g3 (by omega) (by omega) (by omega) (by simp; omega) g2
  obtain ⟨a', j1, j2, j3⟩ := dec_be l recs _ [] i3 (fun r hr => ⟨v13 r hr, hx r hr⟩) i2
  unfold decF
  dsimp only
  rw [a1]
  dsimp only
  rw [b1]
  dsimp only
  rw [c1]
  dsimp only
  rw [d1]
  dsimp only
  rw [f1]
  dsimp only
  rw [g1]
  dsimp only
  rw [i1]
  dsimp only
  rw [Int.toNat_natCast, j1, of_code v7]
  dsimp only
  have hleft : leftF l a' false = 0 := by
    unfold leftF
    have := (atOk_iff l a').1 j3
    have hz := congrArg List.length j2
    simp at hz
    simp
    omega
  unfold endF
  rw [hleft, h]
  rfl
theorem fitsL_zero {kind from0 inc lo hi seq target life epoch base : Int} {recs : List (Int × Int × Int × (Int × Int) × Bool × List (Int × List Int))} (h : fitsL kind from0 inc lo hi seq target life epoch base recs = true) : life = 0 ∧ epoch = 0 ∧ base = 0 := by
  unfold fitsL at h
  split at h
  · cases h
  · rename_i hc
    simp only [Bool.or_eq_true, not_or, bne_iff_ne, ne_eq, Decidable.not_not] at hc
    exact ⟨hc.2.2.1, hc.2.2.2.1, hc.2.2.2.2⟩
theorem Gen1Back.pure (kind from0 inc lo hi seq target life epoch base : Int) (recs : List (Int × Int × Int × (Int × Int) × Bool × List (Int × List Int))) (hl : smallRecs recs = true) : Gen1Back.f 0 kind from0 inc lo hi seq target life epoch base recs = some true := by
  unfold Gen1Back.f Gen1Back.b
  rw [hl]
  cases few8 recs
  · rfl
  cases hf : fitsL kind from0 inc lo hi seq target life epoch base recs
  · rfl
  obtain ⟨rfl, rfl, rfl⟩ := fitsL_zero hf
  have h1 : fits1 kind from0 inc lo hi seq target 0 0 0 recs = true := by rw [fits_same]; exact hf
  have hv := (fits_facts hf).1
  have hlen := (valid_facts hv).2.2.2.2.2.2.2.2.2.2.2.2.1
  have he : encF kind from0 inc lo hi seq target 0 0 0 recs = (bodyF kind from0 inc lo hi seq target recs, 0) := by
    unfold encF
    rw [hv, h1]
    rfl
  rw [he]
  dsimp only
  rw [body_bytes kind from0 inc lo hi seq target recs hlen, veil_eq, back kind from0 inc lo hi seq target recs h1]
  dsimp only
  rw [hl, allGo_self]
  simp
end Go.Proofs.Ytlmljpmohljefaa

/- printed by denfn.py -/
set_option linter.unusedVariables false
namespace Go.Proofs.Ytlmljpmohljefaa
open Go.Den
noncomputable def seven (p : List Int) : Bool := inB p && decide (p.length ≤ 7)
noncomputable def s_num60 : Den.Sum := ⟨[.dat (.sl (.int .u8)) false], fun args objs κ => match args, objs with
  | [.d (.sl (.int .u8)) p], [] => if seven p = true then κ [.d (.int .i64) (numB p)] [] else none
  | _, _ => none⟩
noncomputable def Num60_E : Env := ⟨th, gam [], fun i => if i = 3 then ⟨[0, 3, 4], [], []⟩ else ⟨[], [], []⟩⟩
noncomputable def Num60.k (rs : List AV) (os : List Den.Obj) : Option Int :=
  match rs, os with
  | [.d (.int .i64) r0], [] => some r0
  | _, _ => none
noncomputable def Num60.s3 (p : List Int) (x0 : Int) (x1 : Int) : St := ⟨[.d (.sl (.int .u8)) (p), .dead, .dead, .d (.int .i64) x0, .d (.int .i64) x1, .dead, .dead, .dead, .dead, .dead, .dead, .dead, .dead, .dead, .dead, .dead, .dead, .dead, .dead, .dead], ofL [], 0⟩
noncomputable def Num60.b3 (p : List Int) (A3 : Int → Int → Option Int) (x0 : Int) (x1 : Int) : Option Int :=
  (if (decide (x1 < ((((List.length p)) : Nat) : Int))) then (match (idx p x1) with | none => none | some y2 => A3 (Go.IntKind.wrap .i64 ((Go.IntKind.wrap .i64 (x0 * (256 : Int))) + (Go.IntKind.wrap .i64 y2))) (Go.IntKind.wrap .i64 (x1 + (1 : Int)))) else some (x0))
noncomputable def Num60.l3 (fuel : Nat) (p : List Int) : Nat → Int → Int → Option Int
  | 0, _, _ => none
  | k + 1, x0, x1 => Num60.b3 p (Num60.l3 fuel p k) x0 x1
noncomputable def Num60.b (p : List Int) (E3 : Int → Int → Option Int) : Option Int :=
  E3 (0 : Int) (0 : Int)
noncomputable def Num60.f (fuel : Nat) (p : List Int) : Option Int := Num60.b p (Num60.l3 fuel p fuel)
theorem Num60.l3_eq (fuel : Nat) (p : List Int) : ∀ (k : Nat) (x0 : Int) (x1 : Int), lp Num60_E fuel Try.f60 [.raw] 0 Num60.k 3 [] k (Num60.s3 p x0 x1) = Num60.l3 fuel p k x0 x1 := by
  intro k
  induction k with
  | zero => intro x0 x1; rfl
  | succ k ih =>
    intro x0 x1
    have h : lp Num60_E fuel Try.f60 [.raw] 0 Num60.k 3 [] (k + 1) (Num60.s3 p x0 x1) = Num60.b3 p (fun x0 x1 => lp Num60_E fuel Try.f60 [.raw] 0 Num60.k 3 [] k (Num60.s3 p x0 x1)) x0 x1 := by kernel_rfl
    rw [h]
    have e3 : (fun x0 x1 => lp Num60_E fuel Try.f60 [.raw] 0 Num60.k 3 [] k (Num60.s3 p x0 x1)) = Num60.l3 fuel p k := (funext fun x0 => (funext fun x1 => ih x0 x1))
    rw [e3]
    rfl
theorem Num60.eq (fuel : Nat) (p : List Int) : (denF Num60_E loopN fuel Try.f60 [.raw] [.d (.sl (.int .u8)) p] [] Num60.k) = Num60.f fuel p := by
  have h : (denF Num60_E loopN fuel Try.f60 [.raw] [.d (.sl (.int .u8)) p] [] Num60.k) = Num60.b p (fun x0 x1 => lp Num60_E fuel Try.f60 [.raw] 0 Num60.k 3 [] fuel (Num60.s3 p x0 x1)) := by kernel_rfl
  rw [h]
  have e3 : (fun x0 x1 => lp Num60_E fuel Try.f60 [.raw] 0 Num60.k 3 [] fuel (Num60.s3 p x0 x1)) = Num60.l3 fuel p fuel := (funext fun x0 => (funext fun x1 => Num60.l3_eq fuel p fuel x0 x1))
  rw [e3]
  rfl


noncomputable def Message1_E : Env := ⟨th, gam [(60, s_num60), (20, s_valid)], fun i => if i = 5 then ⟨[0, 2, 4, 5], [(1266, 50, (.pair (.int .i64) (.pair (.int .i64) (.pair (.int .i64) (.pair (.pair (.int .i64) (.int .i64)) (.pair .bool (.sl (.pair (.int .i64) (.sl (.int .u8))))))))))], []⟩ else ⟨[], [], []⟩⟩
noncomputable def Message1.k (rs : List AV) (os : List Den.Obj) : Option (Int × Int × Int × Int × Int × Int × Int × Int × Int × Int × (List (Int × (Int × (Int × ((Int × Int) × (Bool × (List (Int × (List Int))))))))) × Bool) :=
  match rs, os with
  | [.agg [.d (.int .i64) r0, .d (.int .i64) r1, .d (.int .i64) r2, .d (.int .i64) r3, .d (.int .i64) r4, .d (.int .i64) r5, .d (.int .i64) r6, .d (.int .i64) r7, .d (.int .i64) r8, .d (.int .i64) r9, .d (.sl (.pair (.int .i64) (.pair (.int .i64) (.pair (.int .i64) (.pair (.pair (.int .i64) (.int .i64)) (.pair .bool (.sl (.pair (.int .i64) (.sl (.int .u8)))))))))) r10], .d .bool r11], [] => some (r0, r1, r2, r3, r4, r5, r6, r7, r8, r9, r10, r11)
  | _, _ => none
noncomputable def Message1.s5 (l : List Int) (x4 : Int) (x5 : Int) (x6 : Int) (x7 : Int) (x8 : Int) (x9 : Int) (x10 : Int) (x11 : Int) (x12 : (List (Int × (Int × (Int × ((Int × Int) × (Bool × (List (Int × (List Int)))))))))) : St := ⟨[.d (.sl (.int .u8)) (l), .dead, .ptr 64 0, .dead, .ptr 65 0, .d (.int .i64) x4, .dead, .dead, .dead, .dead, .dead, .dead, .dead, .dead, .dead, .dead, .dead, .dead, .dead, .dead, .dead, .dead, .dead, .dead, .dead, .dead, .dead, .dead, .dead, .dead, .dead, .dead, .dead, .dead, .dead, .dead, .dead, .dead, .dead, .dead, .dead, .dead, .dead, .dead, .dead, .dead, .dead, .dead, .dead, .dead, .dead, .dead, .dead, .dead, .dead, .dead, .dead, .dead, .dead, .dead, .dead, .dead, .dead, .dead, .dead, .dead, .dead, .dead, .dead, .dead, .dead, .dead, .dead, .dead, .dead, .dead, .dead, .dead, .dead, .dead, .dead, .dead, .dead, .dead, .dead, .dead, .dead, .dead, .dead, .dead, .dead, .dead, .dead, .dead, .dead, .dead, .dead, .dead, .dead, .dead, .dead, .dead, .dead, .dead, .dead], ofL [(64, .box [.d (.int .i64) (0), .d (.int .i64) (0), .d (.int .i64) (0), .d (.int .i64) (0), .d (.int .i64) (0), .d (.int .i64) (0), .d (.int .i64) (0), .d (.int .i64) (0), .d (.int .i64) (0), .d (.int .i64) (0), .nilsl]), (65, .box [.d (.int .i64) x5, .d (.int .i64) x6, .d (.int .i64) x7, .d (.int .i64) x8, .d (.int .i64) x9, .d (.int .i64) x10, .d (.int .i64) x11, .d (.int .i64) (0), .d (.int .i64) (0), .d (.int .i64) (0), .row 66]), (66, .row 50 (.pair (.int .i64) (.pair (.int .i64) (.pair (.int .i64) (.pair (.pair (.int .i64) (.int .i64)) (.pair .bool (.sl (.pair (.int .i64) (.sl (.int .u8))))))))) x12 false)], 0⟩
noncomputable def Message1.b5 (l : List Int) (A5 : Int → Int → Int → Int → Int → Int → Int → Int → (List (Int × (Int × (Int × ((Int × Int) × (Bool × (List (Int × (List Int))))))))) → Option (Int × Int × Int × Int × Int × Int × Int × Int × Int × Int × (List (Int × (Int × (Int × ((Int × Int) × (Bool × (List (Int × (List Int))))))))) × Bool)) (x4 : Int) (x5 : Int) (x6 : Int) (x7 : Int) (x8 : Int) (x9 : Int) (x10 : Int) (x11 : Int) (x12 : (List (Int × (Int × (Int × ((Int × Int) × (Bool × (List (Int × (List Int)))))))))) : Option (Int × Int × Int × Int × Int × Int × Int × Int × Int × Int × (List (Int × (Int × (Int × ((Int × Int) × (Bool × (List (Int × (List Int))))))))) × Bool) :=
  (if (decide (x4 < ((((List.length l)) : Nat) : Int))) then (match (idx l (Go.IntKind.wrap .i64 (x4 + (4 : Int)))) with | none => none | some y13 => (if (decide ((Go.IntKind.wrap .i64 y13) > (127 : Int))) then some (0, 0, 0, 0, 0, 0, 0, 0, 0, 0, ([] : List (Int × (Int × (Int × ((Int × Int) × (Bool × (List (Int × (List Int))))))))), false) else (if (((0 : Int) ≤ x4) ∧ ((x4 ≤ (Go.IntKind.wrap .i64 (x4 + (2 : Int)))) ∧ ((Go.IntKind.wrap .i64 (x4 + (2 : Int))) ≤ ((((List.length l)) : Nat) : Int)))) then (if (seven (List.drop (Int.toNat x4) (List.take (Int.toNat (Go.IntKind.wrap .i64 (x4 + (2 : Int)))) l))) then (if (((0 : Int) ≤ (Go.IntKind.wrap .i64 (x4 + (2 : Int)))) ∧ (((Go.IntKind.wrap .i64 (x4 + (2 : Int))) ≤ (Go.IntKind.wrap .i64 (x4 + (4 : Int)))) ∧ ((Go.IntKind.wrap .i64 (x4 + (4 : Int))) ≤ ((((List.length l)) : Nat) : Int)))) then (if (seven (List.drop (Int.toNat (Go.IntKind.wrap .i64 (x4 + (2 : Int)))) (List.take (Int.toNat (Go.IntKind.wrap .i64 (x4 + (4 : Int)))) l))) then (if ((((List.length x12) + (List.length (((numB (List.drop (Int.toNat x4) (List.take (Int.toNat (Go.IntKind.wrap .i64 (x4 + (2 : Int)))) l))), ((numB (List.drop (Int.toNat (Go.IntKind.wrap .i64 (x4 + (2 : Int)))) (List.take (Int.toNat (Go.IntKind.wrap .i64 (x4 + (4 : Int)))) l))), ((Int.tmod (Go.IntKind.wrap .i64 y13) (4 : Int)), (((Int.tmod (Go.IntKind.wrap .i64 (Int.tdiv (Go.IntKind.wrap .i64 y13) (4 : Int))) (4 : Int)), (Int.tmod (Go.IntKind.wrap .i64 (Int.tdiv (Go.IntKind.wrap .i64 y13) (16 : Int))) (4 : Int))), ((decide ((Go.IntKind.wrap .i64 y13) ≥ (64 : Int))), ([] : List (Int × (List Int)))))))) :: ([] : List (Int × (Int × (Int × ((Int × Int) × (Bool × (List (Int × (List Int)))))))))))) * (72 : Nat)) ≤ lim) then A5 (Go.IntKind.wrap .i64 (x4 + (5 : Int))) x5 x6 x7 x8 x9 x10 x11 (x12 ++ (((numB (List.drop (Int.toNat x4) (List.take (Int.toNat (Go.IntKind.wrap .i64 (x4 + (2 : Int)))) l))), ((numB (List.drop (Int.toNat (Go.IntKind.wrap .i64 (x4 + (2 : Int)))) (List.take (Int.toNat (Go.IntKind.wrap .i64 (x4 + (4 : Int)))) l))), ((Int.tmod (Go.IntKind.wrap .i64 y13) (4 : Int)), (((Int.tmod (Go.IntKind.wrap .i64 (Int.tdiv (Go.IntKind.wrap .i64 y13) (4 : Int))) (4 : Int)), (Int.tmod (Go.IntKind.wrap .i64 (Int.tdiv (Go.IntKind.wrap .i64 y13) (16 : Int))) (4 : Int))), ((decide ((Go.IntKind.wrap .i64 y13) ≥ (64 : Int))), ([] : List (Int × (List Int)))))))) :: ([] : List (Int × (Int × (Int × ((Int × Int) × (Bool × (List (Int × (List Int))))))))))) else none) else none) else none) else none) else none))) else (if (smallRecs x12) then (if (!(validF x5 x6 x7 x8 x9 x10 x11 0 0 0 x12)) then some (0, 0, 0, 0, 0, 0, 0, 0, 0, 0, ([] : List (Int × (Int × (Int × ((Int × Int) × (Bool × (List (Int × (List Int))))))))), false) else (if (x5 == (9 : Int)) then some (0, 0, 0, 0, 0, 0, 0, 0, 0, 0, ([] : List (Int × (Int × (Int × ((Int × Int) × (Bool × (List (Int × (List Int))))))))), false) else some (x5, x6, x7, x8, x9, x10, x11, 0, 0, 0, x12, true))) else none))
noncomputable def Message1.l5 (fuel : Nat) (l : List Int) : Nat → Int → Int → Int → Int → Int → Int → Int → Int → (List (Int × (Int × (Int × ((Int × Int) × (Bool × (List (Int × (List Int))))))))) → Option (Int × Int × Int × Int × Int × Int × Int × Int × Int × Int × (List (Int × (Int × (Int × ((Int × Int) × (Bool × (List (Int × (List Int))))))))) × Bool)
  | 0, _, _, _, _, _, _, _, _, _ => none
  | k + 1, x4, x5, x6, x7, x8, x9, x10, x11, x12 => Message1.b5 l (Message1.l5 fuel l k) x4 x5 x6 x7 x8 x9 x10 x11 x12
noncomputable def Message1.b (l : List Int) (E5 : Int → Int → Int → Int → Int → Int → Int → Int → (List (Int × (Int × (Int × ((Int × Int) × (Bool × (List (Int × (List Int))))))))) → Option (Int × Int × Int × Int × Int × Int × Int × Int × Int × Int × (List (Int × (Int × (Int × ((Int × Int) × (Bool × (List (Int × (List Int))))))))) × Bool)) : Option (Int × Int × Int × Int × Int × Int × Int × Int × Int × Int × (List (Int × (Int × (Int × ((Int × Int) × (Bool × (List (Int × (List Int))))))))) × Bool) :=
  (if (decide (((((List.length l)) : Nat) : Int) < (15 : Int))) then some (0, 0, 0, 0, 0, 0, 0, 0, 0, 0, ([] : List (Int × (Int × (Int × ((Int × Int) × (Bool × (List (Int × (List Int))))))))), false) else (match (idx l (14 : Int)) with | none => none | some y0 => (if (((((List.length l)) : Nat) : Int) != (Go.IntKind.wrap .i64 ((15 : Int) + (Go.IntKind.wrap .i64 ((5 : Int) * (Go.IntKind.wrap .i64 y0)))))) then some (0, 0, 0, 0, 0, 0, 0, 0, 0, 0, ([] : List (Int × (Int × (Int × ((Int × Int) × (Bool × (List (Int × (List Int))))))))), false) else (match (idx l (0 : Int)) with | none => none | some y1 => (if (((0 : Int) ≤ (1 : Int)) ∧ (((1 : Int) ≤ (3 : Int)) ∧ ((3 : Int) ≤ ((((List.length l)) : Nat) : Int)))) then (if (seven (List.drop (Int.toNat (1 : Int)) (List.take (Int.toNat (3 : Int)) l))) then (if (((0 : Int) ≤ (3 : Int)) ∧ (((3 : Int) ≤ (9 : Int)) ∧ ((9 : Int) ≤ ((((List.length l)) : Nat) : Int)))) then (if (seven (List.drop (Int.toNat (3 : Int)) (List.take (Int.toNat (9 : Int)) l))) then (match (idx l (9 : Int)) with | none => none | some y2 => (match (idx l (9 : Int)) with | none => none | some y3 => (if (((0 : Int) ≤ (10 : Int)) ∧ (((10 : Int) ≤ (12 : Int)) ∧ ((12 : Int) ≤ ((((List.length l)) : Nat) : Int)))) then (if (seven (List.drop (Int.toNat (10 : Int)) (List.take (Int.toNat (12 : Int)) l))) then (if (((0 : Int) ≤ (12 : Int)) ∧ (((12 : Int) ≤ (14 : Int)) ∧ ((14 : Int) ≤ ((((List.length l)) : Nat) : Int)))) then (if (seven (List.drop (Int.toNat (12 : Int)) (List.take (Int.toNat (14 : Int)) l))) then E5 (15 : Int) (Go.IntKind.wrap .i64 y1) (numB (List.drop (Int.toNat (1 : Int)) (List.take (Int.toNat (3 : Int)) l))) (numB (List.drop (Int.toNat (3 : Int)) (List.take (Int.toNat (9 : Int)) l))) (Go.IntKind.wrap .i64 (Int.tdiv (Go.IntKind.wrap .i64 y2) (16 : Int))) (Int.tmod (Go.IntKind.wrap .i64 y3) (16 : Int)) (numB (List.drop (Int.toNat (10 : Int)) (List.take (Int.toNat (12 : Int)) l))) (numB (List.drop (Int.toNat (12 : Int)) (List.take (Int.toNat (14 : Int)) l))) ([] : List (Int × (Int × (Int × ((Int × Int) × (Bool × (List (Int × (List Int))))))))) else none) else none) else none) else none))) else none) else none) else none) else none)))))
noncomputable def Message1.f (fuel : Nat) (l : List Int) : Option (Int × Int × Int × Int × Int × Int × Int × Int × Int × Int × (List (Int × (Int × (Int × ((Int × Int) × (Bool × (List (Int × (List Int))))))))) × Bool) := Message1.b l (Message1.l5 fuel l fuel)
theorem Message1.l5_eq (fuel : Nat) (l : List Int) : ∀ (k : Nat) (x4 : Int) (x5 : Int) (x6 : Int) (x7 : Int) (x8 : Int) (x9 : Int) (x10 : Int) (x11 : Int) (x12 : (List (Int × (Int × (Int × ((Int × Int) × (Bool × (List (Int × (List Int)))))))))), lp Message1_E fuel Try.f23 [.dat (.pair (.int .i64) (.pair (.int .i64) (.pair (.int .i64) (.pair (.pair (.int .i64) (.int .i64)) (.pair (.int .i64) (.pair (.int .i64) (.pair (.int .i64) (.pair (.int .i64) (.pair (.int .i64) (.sl (.pair (.int .i64) (.pair (.int .i64) (.pair (.int .i64) (.pair (.pair (.int .i64) (.int .i64)) (.pair .bool (.sl (.pair (.int .i64) (.sl (.int .u8))))))))))))))))))) true, .raw] 0 Message1.k 5 [] k (Message1.s5 l x4 x5 x6 x7 x8 x9 x10 x11 x12) = Message1.l5 fuel l k x4 x5 x6 x7 x8 x9 x10 x11 x12 := by
  intro k
  induction k with
  | zero => intro x4 x5 x6 x7 x8 x9 x10 x11 x12; rfl
  | succ k ih =>
    intro x4 x5 x6 x7 x8 x9 x10 x11 x12
    have h : lp Message1_E fuel Try.f23 [.dat (.pair (.int .i64) (.pair (.int .i64) (.pair (.int .i64) (.pair (.pair (.int .i64) (.int .i64)) (.pair (.int .i64) (.pair (.int .i64) (.pair (.int .i64) (.pair (.int .i64) (.pair (.int .i64) (.sl (.pair (.int .i64) (.pair (.int .i64) (.pair (.int .i64) (.pair (.pair (.int .i64) (.int .i64)) (.pair .bool (.sl (.pair (.int .i64) (.sl (.int .u8))))))))))))))))))) true, .raw] 0 Message1.k 5 [] (k + 1) (Message1.s5 l x4 x5 x6 x7 x8 x9 x10 x11 x12) = Message1.b5 l (fun x4 x5 x6 x7 x8 x9 x10 x11 x12 => lp Message1_E fuel Try.f23 [.dat (.pair (.int .i64) (.pair (.int .i64) (.pair (.int .i64) (.pair (.pair (.int .i64) (.int .i64)) (.pair (.int .i64) (.pair (.int .i64) (.pair (.int .i64) (.pair (.int .i64) (.pair (.int .i64) (.sl (.pair (.int .i64) (.pair (.int .i64) (.pair (.int .i64) (.pair (.pair (.int .i64) (.int .i64)) (.pair .bool (.sl (.pair (.int .i64) (.sl (.int .u8))))))))))))))))))) true, .raw] 0 Message1.k 5 [] k (Message1.s5 l x4 x5 x6 x7 x8 x9 x10 x11 x12)) x4 x5 x6 x7 x8 x9 x10 x11 x12 := by kernel_rfl
    rw [h]
    have e5 : (fun x4 x5 x6 x7 x8 x9 x10 x11 x12 => lp Message1_E fuel Try.f23 [.dat (.pair (.int .i64) (.pair (.int .i64) (.pair (.int .i64) (.pair (.pair (.int .i64) (.int .i64)) (.pair (.int .i64) (.pair (.int .i64) (.pair (.int .i64) (.pair (.int .i64) (.pair (.int .i64) (.sl (.pair (.int .i64) (.pair (.int .i64) (.pair (.int .i64) (.pair (.pair (.int .i64) (.int .i64)) (.pair .bool (.sl (.pair (.int .i64) (.sl (.int .u8))))))))))))))))))) true, .raw] 0 Message1.k 5 [] k (Message1.s5 l x4 x5 x6 x7 x8 x9 x10 x11 x12)) = Message1.l5 fuel l k := (funext fun x4 => (funext fun x5 => (funext fun x6 => (funext fun x7 => (funext fun x8 => (funext fun x9 => (funext fun x10 => (funext fun x11 => (funext fun x12 => ih x4 x5 x6 x7 x8 x9 x10 x11 x12)))))))))
    rw [e5]
    rfl
theorem Message1.eq (fuel : Nat) (l : List Int) : (denF Message1_E loopN fuel Try.f23 [.dat (.pair (.int .i64) (.pair (.int .i64) (.pair (.int .i64) (.pair (.pair (.int .i64) (.int .i64)) (.pair (.int .i64) (.pair (.int .i64) (.pair (.int .i64) (.pair (.int .i64) (.pair (.int .i64) (.sl (.pair (.int .i64) (.pair (.int .i64) (.pair (.int .i64) (.pair (.pair (.int .i64) (.int .i64)) (.pair .bool (.sl (.pair (.int .i64) (.sl (.int .u8))))))))))))))))))) true, .raw] [.d (.sl (.int .u8)) l] [] Message1.k) = Message1.f fuel l := by
  have h : (denF Message1_E loopN fuel Try.f23 [.dat (.pair (.int .i64) (.pair (.int .i64) (.pair (.int .i64) (.pair (.pair (.int .i64) (.int .i64)) (.pair (.int .i64) (.pair (.int .i64) (.pair (.int .i64) (.pair (.int .i64) (.pair (.int .i64) (.sl (.pair (.int .i64) (.pair (.int .i64) (.pair (.int .i64) (.pair (.pair (.int .i64) (.int .i64)) (.pair .bool (.sl (.pair (.int .i64) (.sl (.int .u8))))))))))))))))))) true, .raw] [.d (.sl (.int .u8)) l] [] Message1.k) = Message1.b l (fun x4 x5 x6 x7 x8 x9 x10 x11 x12 => lp Message1_E fuel Try.f23 [.dat (.pair (.int .i64) (.pair (.int .i64) (.pair (.int .i64) (.pair (.pair (.int .i64) (.int .i64)) (.pair (.int .i64) (.pair (.int .i64) (.pair (.int .i64) (.pair (.int .i64) (.pair (.int .i64) (.sl (.pair (.int .i64) (.pair (.int .i64) (.pair (.int .i64) (.pair (.pair (.int .i64) (.int .i64)) (.pair .bool (.sl (.pair (.int .i64) (.sl (.int .u8))))))))))))))))))) true, .raw] 0 Message1.k 5 [] fuel (Message1.s5 l x4 x5 x6 x7 x8 x9 x10 x11 x12)) := by kernel_rfl
  rw [h]
  have e5 : (fun x4 x5 x6 x7 x8 x9 x10 x11 x12 => lp Message1_E fuel Try.f23 [.dat (.pair (.int .i64) (.pair (.int .i64) (.pair (.int .i64) (.pair (.pair (.int .i64) (.int .i64)) (.pair (.int .i64) (.pair (.int .i64) (.pair (.int .i64) (.pair (.int .i64) (.pair (.int .i64) (.sl (.pair (.int .i64) (.pair (.int .i64) (.pair (.int .i64) (.pair (.pair (.int .i64) (.int .i64)) (.pair .bool (.sl (.pair (.int .i64) (.sl (.int .u8))))))))))))))))))) true, .raw] 0 Message1.k 5 [] fuel (Message1.s5 l x4 x5 x6 x7 x8 x9 x10 x11 x12)) = Message1.l5 fuel l fuel := (funext fun x4 => (funext fun x5 => (funext fun x6 => (funext fun x7 => (funext fun x8 => (funext fun x9 => (funext fun x10 => (funext fun x11 => (funext fun x12 => Message1.l5_eq fuel l fuel x4 x5 x6 x7 x8 x9 x10 x11 x12)))))))))
  rw [e5]
  rfl


end Go.Proofs.Ytlmljpmohljefaa

set_option linter.unusedVariables false
set_option linter.unusedSimpArgs false
namespace Go.Proofs.Ytlmljpmohljefaa
open Go.Den
theorem seven_iff (p : List Int) : seven p = true ↔ inB p = true ∧ p.length ≤ 7 := by unfold seven; simp
theorem Num60.loop (fuel : Nat) (p : List Int) (hp : p.length ≤ 7) (hb : ∀ c ∈ p, 0 ≤ c ∧ c ≤ 255) : ∀ (k i : Nat) (v : Int), i ≤ p.length → p.length - i < k → 0 ≤ v → v < 256 ^ i →
    Num60.l3 fuel p k v (i : Int) = some ((p.drop i).foldl (fun v c => v * 256 + c) v) := by
  intro k
  induction k with
  | zero => intro i v h1 h2; omega
  | succ k ih =>
    intro i v h1 h2 h3 h4
    rw [Num60.l3]
    unfold Num60.b3
    by_cases hi : i < p.length
    · rw [if_pos (by simp; omega), idx_at, List.getElem?_eq_getElem hi]
      dsimp only
      obtain ⟨b1, b2⟩ := hb p[i] (List.getElem_mem hi)
      have hv : v < 281474976710656 := by
        have : i = 0 ∨ i = 1 ∨ i = 2 ∨ i = 3 ∨ i = 4 ∨ i = 5 ∨ i = 6 := by omega
        rcases this with rfl | rfl | rfl | rfl | rfl | rfl | rfl <;> simp at h4 <;> omega
      rw [wrap_small (v * 256) (by omega) (by omega), wrap_small p[i] (by omega) (by omega), wrap_small (v * 256 + _) (by omega) (by omega), wrap_small _ (by omega) (by omega), List.drop_eq_getElem_cons hi]
      rw [show ((i : Int) + 1) = ((i + 1 : Nat) : Int) from by omega]
      exact ih (i + 1) _ (by omega) (by omega) (by omega) (by rw [Int.pow_succ]; generalize (256 : Int) ^ i = M at h4 ⊢; omega)
    · rw [if_neg (by simp; omega), List.drop_of_length_le (by omega)]
      rfl
theorem Num60.pure (p : List Int) (hl : seven p = true) : Num60.f 9 p = some (numB p) := by
  obtain ⟨h1, h2⟩ := (seven_iff p).1 hl
  unfold Num60.f Num60.b
  exact Num60.loop 9 p h2 ((inB_iff p).1 h1).2 9 0 0 (by omega) (by omega) (by omega) (by simp)
/-- the record at a place, as the law reads it -/
noncomputable def recAt (l : List Int) (i : Int) : Int × Int × Int × (Int × Int) × Bool × List (Int × List Int) :=
  let v := l.getD (i + 4).toNat 0
  (numB (seg l i 2), numB (seg l (i + 2) 2), v % 4, (v / 4 % 4, v / 16 % 4), decide (v ≥ 64), [])
/-- the records from a place on; false: one of them is none -/
noncomputable def recsAt (l : List Int) : Nat → Int → List (Int × Int × Int × (Int × Int) × Bool × List (Int × List Int)) × Bool
  | 0, _ => ([], true)
  | k + 1, i => if l.getD (i + 4).toNat 0 > 127 then ([], false) else (recAt l i :: (recsAt l k (i + 5)).1, (recsAt l k (i + 5)).2)
noncomputable def msgEnd (kind from0 inc lo hi seq target : Int) (recs : List (Int × Int × Int × (Int × Int) × Bool × List (Int × List Int))) : Int × Int × Int × Int × Int × Int × Int × List (Int × Int × Int × (Int × Int) × Bool × List (Int × List Int)) × Bool :=
  if validF kind from0 inc lo hi seq target 0 0 0 recs && !(kind == 9) then (kind, from0, inc, lo, hi, seq, target, recs, true) else (0, 0, 0, 0, 0, 0, 0, [], false)
noncomputable def msgL (l : List Int) : Int × Int × Int × Int × Int × Int × Int × List (Int × Int × Int × (Int × Int) × Bool × List (Int × List Int)) × Bool :=
  if l.length < 15 ∨ (l.length : Int) ≠ 15 + 5 * l.getD 14 0 then (0, 0, 0, 0, 0, 0, 0, [], false) else
  let r := recsAt l (l.getD 14 0).toNat 15
  if r.2 then msgEnd (l.getD 0 0) (numB (seg l 1 2)) (numB (seg l 3 6)) (l.getD 9 0 / 16) (l.getD 9 0 % 16) (numB (seg l 10 2)) (numB (seg l 12 2)) r.1 else (0, 0, 0, 0, 0, 0, 0, [], false)
theorem seg_seven (l : List Int) (hl : inB l = true) (a n : Int) (h0 : 0 ≤ a) (h1 : 0 ≤ n) (h7 : n ≤ 7) (h2 : a + n ≤ (l.length : Int)) : seven (seg l a n) = true := by
  obtain ⟨k1, k2⟩ := (inB_iff l).1 hl
  refine (seven_iff _).2 ⟨(inB_iff _).2 ⟨?_, fun c hc => k2 c (seg_mem hc)⟩, ?_⟩ <;> (rw [seg_length l a n h0 h1 (by omega)]; omega)
theorem getD_byte (l : List Int) (hl : inB l = true) (i : Nat) (hi : i < l.length) : 0 ≤ l.getD i 0 ∧ l.getD i 0 ≤ 255 := by
  have := ((inB_iff l).1 hl).2 (l.getD i 0) (by simp [List.getD, List.getElem?_eq_getElem hi])
  exact this
theorem recsAt_bare (l : List Int) : ∀ (k : Nat) (i : Int), (recsAt l k i).1.length ≤ k ∧ ∀ r ∈ (recsAt l k i).1, r.2.2.2.2.2 = []
  | 0, i => by simp [recsAt]
  | k + 1, i => by
    have ih := recsAt_bare l k (i + 5)
    unfold recsAt
    split
    · simp
    · refine ⟨by simp; omega, fun r hr => ?_⟩
      rcases List.mem_cons.1 hr with rfl | hr
      · rfl
      · exact ih.2 r hr
theorem Message1.loop (fuel : Nat) (l : List Int) (hl : inB l = true) (kind from0 inc lo hi seq target : Int) : ∀ (k j : Nat) (i : Int) (acc : List (Int × Int × Int × (Int × Int) × Bool × List (Int × List Int))), j < k → 0 ≤ i → i + 5 * (j : Int) = (l.length : Int) → acc.length + j ≤ 300 → (∀ r ∈ acc, r.2.2.2.2.2 = []) →
    Message1.l5 fuel l k i kind from0 inc lo hi seq target acc = some (let e := if (recsAt l j i).2 then msgEnd kind from0 inc lo hi seq target (acc ++ (recsAt l j i).1) else (0, 0, 0, 0, 0, 0, 0, [], false); (e.1, e.2.1, e.2.2.1, e.2.2.2.1, e.2.2.2.2.1, e.2.2.2.2.2.1, e.2.2.2.2.2.2.1, 0, 0, 0, e.2.2.2.2.2.2.2.1, e.2.2.2.2.2.2.2.2)) := by
  have hlen := ((inB_iff l).1 hl).1
  intro k
  induction k with
  | zero => intro j i acc h1; omega
  | succ k ih =>
    intro j i acc h1 h2 h3 h4 h5
    rw [Message1.l5]
    unfold Message1.b5
    cases j with
    | zero =>
      rw [if_neg (by simp; omega)]
      have hs : smallRecs acc = true := (smallRecs_iff acc).2 ⟨by omega, fun r hr => by rw [h5 r hr]; rfl⟩
      rw [hs, if_pos rfl]
      unfold recsAt msgEnd
      rw [if_pos rfl, List.append_nil]
      cases validF kind from0 inc lo hi seq target 0 0 0 acc
      · rfl
      · by_cases h9 : kind = 9
        · simp [h9]
        · have h9' : (kind == 9) = false := by simpa using h9
          simp [h9']
    | succ j =>
      have hw4 : Go.IntKind.wrap .i64 (i + 4) = i + 4 := wrap_small _ (by omega) (by omega)
      have hw2 : Go.IntKind.wrap .i64 (i + 2) = i + 2 := wrap_small _ (by omega) (by omega)
      have hw5 : Go.IntKind.wrap .i64 (i + 5) = i + 5 := wrap_small _ (by omega) (by omega)
      have hg : idx l (i + 4) = some (l.getD (i + 4).toNat 0) := by
        have := getD_at l 0 (i + 4).toNat (by omega)
        rwa [Int.toNat_of_nonneg (by omega)] at this
      obtain ⟨b1, b2⟩ := getD_byte l hl (i + 4).toNat (by omega)
      rw [if_pos (by simp; omega), hw4, hg]
      dsimp only
      have hwv : Go.IntKind.wrap .i64 (l.getD (i + 4).toNat 0) = l.getD (i + 4).toNat 0 := wrap_small _ (by omega) (by omega)
      rw [hwv]
      by_cases hv : l.getD (i + 4).toNat 0 > 127
      · rw [if_pos (by simpa using hv)]
        unfold recsAt
        rw [if_pos hv]
        rfl
      · rw [if_neg (by simpa using hv), hw2, if_pos ⟨h2, by omega, by omega⟩]
        have s1 := seg_seven l hl i 2 h2 (by omega) (by omega) (by omega)
        have s2 := seg_seven l hl (i + 2) 2 (by omega) (by omega) (by omega) (by omega)
        have e2 : i + 2 + 2 = i + 4 := by omega
        unfold seg at s1 s2
        rw [e2] at s2
        rw [if_pos s1, if_pos ⟨by omega, by omega, by omega⟩, if_pos s2, if_pos (by simp [lim]; omega), hw5]
        generalize hV : l.getD (i + 4).toNat 0 = v at *
        have t1 : Int.tmod v 4 = v % 4 := Int.tmod_eq_emod_of_nonneg b1
        have t2 : Int.tdiv v 4 = v / 4 := Int.tdiv_eq_ediv_of_nonneg b1
        have t3 : Int.tdiv v 16 = v / 16 := Int.tdiv_eq_ediv_of_nonneg b1
        have t4 : Int.tmod (v / 4) 4 = v / 4 % 4 := Int.tmod_eq_emod_of_nonneg (by omega)
        have t5 : Int.tmod (v / 16) 4 = v / 16 % 4 := Int.tmod_eq_emod_of_nonneg (by omega)
        rw [t1, t2, t3, wrap_small (v / 4) (by omega) (by omega), wrap_small (v / 16) (by omega) (by omega), t4, t5]
        have hrec : recAt l i = (numB (List.drop i.toNat (List.take (i + 2).toNat l)), numB (List.drop (i + 2).toNat (List.take (i + 4).toNat l)), v % 4, (v / 4 % 4, v / 16 % 4), decide (v ≥ 64), []) := by
          unfold recAt seg
          rw [hV, e2]
        rw [← hrec, ih j (i + 5) (acc ++ [recAt l i]) (by omega) (by omega) (by omega) (by simp; omega) (fun r hr => by
          rcases List.mem_append.1 hr with hr | hr
          · exact h5 r hr
          · simp at hr; subst hr; rfl)]
        conv => rhs; rw [recsAt]
        rw [hV, if_neg hv, List.append_assoc, List.singleton_append]
theorem getD_idx (l : List Int) (i : Nat) (hi : i < l.length) : idx l (i : Int) = some (l.getD i 0) := getD_at l 0 i hi
theorem Message1.pure (l : List Int) (hl : inB l = true) : Message1.f 300 l = some (let e := msgL l; (e.1, e.2.1, e.2.2.1, e.2.2.2.1, e.2.2.2.2.1, e.2.2.2.2.2.1, e.2.2.2.2.2.2.1, 0, 0, 0, e.2.2.2.2.2.2.2.1, e.2.2.2.2.2.2.2.2)) := by
  unfold Message1.f Message1.b msgL
  have hlen := ((inB_iff l).1 hl).1
  by_cases h15 : l.length < 15
  · rw [if_pos (by simp; omega), if_pos (.inl h15)]
  · have g14 := getD_idx l 14 (by omega)
    have g0 := getD_idx l 0 (by omega)
    have g9 := getD_idx l 9 (by omega)
    obtain ⟨b1, b2⟩ := getD_byte l hl 14 (by omega)
    obtain ⟨c1, c2⟩ := getD_byte l hl 0 (by omega)
    obtain ⟨d1, d2⟩ := getD_byte l hl 9 (by omega)
    rw [if_neg (by simp; omega)]
    have g14' : idx l (14 : Int) = some (l.getD 14 0) := g14
    have g0' : idx l (0 : Int) = some (l.getD 0 0) := g0
    have g9' : idx l (9 : Int) = some (l.getD 9 0) := g9
    rw [g14', g0', g9']
    dsimp only
    rw [wrap_small (l.getD 14 0) (by omega) (by omega), wrap_small (5 * _) (by omega) (by omega), wrap_small (15 + _) (by omega) (by omega)]
    by_cases hn : (l.length : Int) = 15 + 5 * l.getD 14 0
    · have hno : ¬ (l.length < 15 ∨ (l.length : Int) ≠ 15 + 5 * l.getD 14 0) := by
        intro h
        rcases h with h | h
        · exact h15 h
        · exact h hn
      rw [if_neg (by simpa using hn), if_neg hno]
      have s1 := seg_seven l hl 1 2 (by omega) (by omega) (by omega) (by omega)
      have s2 := seg_seven l hl 3 6 (by omega) (by omega) (by omega) (by omega)
      have s3 := seg_seven l hl 10 2 (by omega) (by omega) (by omega) (by omega)
      have s4 := seg_seven l hl 12 2 (by omega) (by omega) (by omega) (by omega)
      have e1 : List.drop (Int.toNat (1 : Int)) (List.take (Int.toNat (3 : Int)) l) = seg l 1 2 := rfl
      have e2 : List.drop (Int.toNat (3 : Int)) (List.take (Int.toNat (9 : Int)) l) = seg l 3 6 := rfl
      have e3 : List.drop (Int.toNat (10 : Int)) (List.take (Int.toNat (12 : Int)) l) = seg l 10 2 := rfl
      have e4 : List.drop (Int.toNat (12 : Int)) (List.take (Int.toNat (14 : Int)) l) = seg l 12 2 := rfl
      rw [e1, e2, e3, e4, if_pos ⟨by omega, by omega, by omega⟩, if_pos s1, if_pos ⟨by omega, by omega, by omega⟩, if_pos s2, if_pos ⟨by omega, by omega, by omega⟩, if_pos s3, if_pos ⟨by omega, by omega, by omega⟩, if_pos s4]
      have t1 : Int.tdiv (l.getD 9 0) 16 = l.getD 9 0 / 16 := Int.tdiv_eq_ediv_of_nonneg d1
      have t2 : Int.tmod (l.getD 9 0) 16 = l.getD 9 0 % 16 := Int.tmod_eq_emod_of_nonneg d1
      rw [wrap_small (l.getD 0 0) (by omega) (by omega), wrap_small (l.getD 9 0) (by omega) (by omega), t1, t2, wrap_small (_ / 16) (by omega) (by omega)]
      have := Message1.loop 300 l hl (l.getD 0 0) (numB (seg l 1 2)) (numB (seg l 3 6)) (l.getD 9 0 / 16) (l.getD 9 0 % 16) (numB (seg l 10 2)) (numB (seg l 12 2)) 300 (l.getD 14 0).toNat 15 [] (by omega) (by omega) (by omega) (by show 0 + _ ≤ 300; omega) (by simp)
      rw [List.nil_append] at this
      exact this
    · rw [if_pos (by simpa using hn), if_pos (.inr hn)]
end Go.Proofs.Ytlmljpmohljefaa

set_option linter.unusedVariables false
set_option linter.unusedSimpArgs false
namespace Go.Proofs.Ytlmljpmohljefaa
open Go.Den
theorem be1 (v : Int) (h0 : 0 ≤ v) (h1 : v < 256) : be 1 v = [v] := by
  show be 0 (v / 256) ++ [v % 256] = [v]
  rw [show v % 256 = v from by omega]
  rfl
theorem seg_be (l : List Int) (a n v : Int) (rest : List Int) (h0 : 0 ≤ a) (h1 : 0 ≤ n) (h : l.drop a.toNat = be n.toNat v ++ rest) : seg l a n = be n.toNat v := by
  unfold seg
  rw [List.drop_take, show (a + n).toNat = a.toNat + n.toNat from by omega, Nat.add_sub_cancel_left, h]
  exact List.take_left' (be_length _ _)
theorem getD_drop (l : List Int) (k : Nat) (v : Int) (rest : List Int) (h : l.drop k = v :: rest) : l.getD k 0 = v := by
  have h1 : (l.drop k)[0]? = some v := by rw [h]; rfl
  rw [List.getElem?_drop, Nat.add_zero] at h1
  simp [List.getD, h1]
theorem drop_next (l : List Int) (a n v : Int) (rest : List Int) (h0 : 0 ≤ a) (h1 : 0 ≤ n) (h : l.drop a.toNat = be n.toNat v ++ rest) : l.drop (a + n).toNat = rest := by
  rw [show (a + n).toNat = a.toNat + n.toNat from by omega, ← List.drop_drop, h]
  exact List.drop_left' (be_length _ _)
/-- the law's reading of what was written: a record -/
theorem recAt_be (l : List Int) (i : Int) (r : Int × Int × Int × (Int × Int) × Bool × List (Int × List Int)) (rest : List Int) (hi : 0 ≤ i) (hr : recOkT r = true) (hinc : r.2.1 ≤ 65535) (hb : r.2.2.2.2.2 = []) (h : l.drop i.toNat = recB r ++ rest) :
    recAt l i = r ∧ l.getD (i + 4).toNat 0 ≤ 127 ∧ l.drop (i + 5).toNat = rest := by
  obtain ⟨id, inc, st, ⟨lo, hi'⟩, cut, bag⟩ := r
  obtain ⟨f1, f2, f3, f4, f5, f6, f7, _, _⟩ := recOk_facts hr
  obtain ⟨_, s1, s2⟩ := state_eq hr
  have f8 := (okS_iff _ _).1 f7
  dsimp only at f1 f2 f3 f5 f6 f7 f8 hinc hb
  subst hb
  unfold recB at h
  dsimp only at h
  rw [List.append_assoc, List.append_assoc] at h
  have g1 := seg_be l i 2 id _ hi (by omega) h
  have d1 := drop_next l i 2 id _ hi (by omega) h
  have g2 := seg_be l (i + 2) 2 inc _ (by omega) (by omega) d1
  have d2 := drop_next l (i + 2) 2 inc _ (by omega) (by omega) d1
  have d3 := drop_next l (i + 2 + 2) 1 _ _ (by omega) (by omega) d2
  rw [be1 _ s1 s2] at d2
  have g3 := getD_drop l _ _ _ d2
  have e4 : i + 2 + 2 = i + 4 := by omega
  have e5 : i + 2 + 2 + 1 = i + 5 := by omega
  rw [e4] at g3
  rw [e5] at d3
  have hs : stateL (id, inc, st, (lo, hi'), cut, ([] : List (Int × List Int))) = (if cut then st + 4 * lo + 16 * hi' + 64 else st + 4 * lo + 16 * hi') := rfl
  rw [hs] at g3
  have n1' : numB (seg l i 2) = id := by rw [g1]; exact numB_be 2 id f1 (by simp; omega)
  have n2' : numB (seg l (i + 2) 2) = inc := by rw [g2]; exact numB_be 2 inc f3 (by simp; omega)
  unfold recAt
  rw [g3, n1', n2']
  refine ⟨?_, by cases cut <;> simp <;> omega, d3⟩
  cases cut
  · simp only [Bool.false_eq_true, if_false]
    have e1 : (st + 4 * lo + 16 * hi') % 4 = st := by omega
    have e2 : (st + 4 * lo + 16 * hi') / 4 % 4 = lo := by omega
    have e3 : (st + 4 * lo + 16 * hi') / 16 % 4 = hi' := by omega
    have e4 : decide (st + 4 * lo + 16 * hi' ≥ 64) = false := by simp; omega
    rw [e1, e2, e3, e4]
  · simp only [if_true]
    have e1 : (st + 4 * lo + 16 * hi' + 64) % 4 = st := by omega
    have e2 : (st + 4 * lo + 16 * hi' + 64) / 4 % 4 = lo := by omega
    have e3 : (st + 4 * lo + 16 * hi' + 64) / 16 % 4 = hi' := by omega
    have e4 : decide (st + 4 * lo + 16 * hi' + 64 ≥ 64) = true := by simp; omega
    rw [e1, e2, e3, e4]
theorem recsAt_be (l : List Int) : ∀ (recs : List (Int × Int × Int × (Int × Int) × Bool × List (Int × List Int))) (i : Int), 0 ≤ i → (∀ r ∈ recs, recOkT r = true ∧ r.2.1 ≤ 65535 ∧ r.2.2.2.2.2 = []) → l.drop i.toNat = recs.flatMap recB → recsAt l recs.length i = (recs, true)
  | [], i, h0, _, h => rfl
  | r :: recs, i, h0, hr, h => by
    obtain ⟨r1, r2, r3⟩ := hr r (by simp)
    rw [List.flatMap_cons] at h
    obtain ⟨o1, o2, o3⟩ := recAt_be l i r _ h0 r1 r2 r3 h
    rw [List.length_cons, recsAt, if_neg (by omega), recsAt_be l recs (i + 5) (by omega) (fun x hx => hr x (by simp [hx])) o3, o1]
theorem flat_len : ∀ (l : List (Int × Int × Int × (Int × Int) × Bool × List (Int × List Int))), (l.flatMap recB).length = 5 * l.length
  | [] => rfl
  | x :: l => by rw [List.flatMap_cons, List.length_append, flat_len l, recB_length, List.length_cons]; omega
theorem body_len (kind from0 inc lo hi seq target : Int) (recs : List (Int × Int × Int × (Int × Int) × Bool × List (Int × List Int))) : (bodyF kind from0 inc lo hi seq target recs).length = 15 + 5 * recs.length := by
  unfold bodyF headB
  simp only [List.length_append, be_length, flat_len]
/-- the law reads what was written -/
theorem msg_back (kind from0 inc lo hi seq target : Int) (recs : List (Int × Int × Int × (Int × Int) × Bool × List (Int × List Int))) (h : fits1 kind from0 inc lo hi seq target 0 0 0 recs = true) :
    msgL (bodyF kind from0 inc lo hi seq target recs) = (kind, from0, inc, lo, hi, seq, target, recs, true) := by
  have hf := h
  rw [fits_same] at hf
  obtain ⟨hv, hx⟩ := fits_facts hf
  obtain ⟨v1, v2, v3, v4, v5, v6, v7, v8, v9, v10, v11, _, v12, v13⟩ := valid_facts hv
  have v14 := (okS_iff _ _).1 v7
  have hk9 : kind ≠ 9 := by
    intro e
    subst e
    unfold fitsL at hf
    simp at hf
  have hll := body_len kind from0 inc lo hi seq target recs
  generalize hl : bodyF kind from0 inc lo hi seq target recs = l at *
  have e0 : l.drop (0 : Int).toNat = be (Int.toNat 1) kind ++ (be 2 from0 ++ (be 6 inc ++ (be 1 (lo * 16 + hi) ++ (be 2 seq ++ (be 2 target ++ (be 1 (recs.length : Int) ++ recs.flatMap recB)))))) := by
    rw [← hl]
    simp [bodyF, headB, n1]
  have a2 := drop_next l 0 1 kind _ (by omega) (by omega) e0
  have b2 := drop_next l _ 2 from0 _ (by omega) (by omega) a2
  have c2 := drop_next l _ 6 inc _ (by omega) (by omega) b2
  have d2 := drop_next l _ 1 (lo * 16 + hi) _ (by omega) (by omega) c2
  have f2 := drop_next l _ 2 seq _ (by omega) (by omega) d2
  have g2 := drop_next l _ 2 target _ (by omega) (by omega) f2
  have i2 := drop_next l _ 1 (recs.length : Int) _ (by omega) (by omega) g2
  have p0 : l.getD 0 0 = kind := by
    have := e0
    rw [n1, be1 kind (by omega) (by omega)] at this
    exact getD_drop l 0 _ _ this
  have p1 : numB (seg l 1 2) = from0 := by rw [seg_be l 1 2 from0 _ (by omega) (by omega) a2]; exact numB_be 2 from0 v3 (by simp; omega)
  have p3 : numB (seg l 3 6) = inc := by rw [seg_be l 3 6 inc _ (by omega) (by omega) b2]; exact numB_be 6 inc v5 (by simp; omega)
  have p9 : l.getD 9 0 = lo * 16 + hi := by
    have := c2
    rw [be1 (lo * 16 + hi) (by omega) (by omega)] at this
    exact getD_drop l 9 _ _ this
  have p10 : numB (seg l 10 2) = seq := by rw [seg_be l 10 2 seq _ (by omega) (by omega) d2]; exact numB_be 2 seq v8 (by simp; omega)
  have p12 : numB (seg l 12 2) = target := by rw [seg_be l 12 2 target _ (by omega) (by omega) f2]; exact numB_be 2 target v10 (by simp; omega)
  have p14 : l.getD 14 0 = (recs.length : Int) := by
    have := g2
    rw [be1 (recs.length : Int) (by omega) (by omega)] at this
    exact getD_drop l 14 _ _ this
  have hra := recsAt_be l recs 15 (by omega) (fun r hr => ⟨v13 r hr, hx r hr⟩) i2
  unfold msgL
  rw [p0, p1, p3, p9, p10, p12, p14, Int.toNat_natCast, hra, if_neg (by rintro (h | h) <;> omega)]
  dsimp only
  have q1 : (lo * 16 + hi) / 16 = lo := by omega
  have q2 : (lo * 16 + hi) % 16 = hi := by omega
  rw [if_pos rfl, q1, q2]
  unfold msgEnd
  have h9 : (kind == 9) = false := by simpa using hk9
  rw [hv, h9]
  rfl
theorem be_seg (l : List Int) (hl : inB l = true) (a n : Int) (h0 : 0 ≤ a) (h1 : 0 ≤ n) (h2 : a + n ≤ (l.length : Int)) : be n.toNat (numB (seg l a n)) = seg l a n := by
  have := be_numB (seg l a n) (fun c hc => ((inB_iff l).1 hl).2 c (seg_mem hc))
  rwa [seg_length l a n h0 h1 (by omega)] at this
theorem numB_two (l : List Int) (hl : inB l = true) (a : Int) (h0 : 0 ≤ a) (h2 : a + 2 ≤ (l.length : Int)) : 0 ≤ numB (seg l a 2) ∧ numB (seg l a 2) ≤ 65535 := by
  have hlen := seg_length l a 2 h0 (by omega) (by omega)
  have hb : ∀ c ∈ seg l a 2, 0 ≤ c ∧ c ≤ 255 := fun c hc => ((inB_iff l).1 hl).2 c (seg_mem hc)
  match hs : seg l a 2, hlen with
  | [x, y], _ =>
    have hx := hb x (by rw [hs]; simp)
    have hy := hb y (by rw [hs]; simp)
    simp [numB]
    omega
theorem drop_seg (l : List Int) (a n : Int) (h0 : 0 ≤ a) (h1 : 0 ≤ n) : l.drop a.toNat = seg l a n ++ l.drop (a + n).toNat := by
  unfold seg
  rw [List.drop_take, show (a + n).toNat = a.toNat + n.toNat from by omega, Nat.add_sub_cancel_left, ← List.drop_drop, List.take_append_drop]
theorem drop_one (l : List Int) (k : Nat) (hk : k < l.length) : l.drop k = l.getD k 0 :: l.drop (k + 1) := by
  rw [List.drop_eq_getElem_cons hk]
  simp [List.getD, List.getElem?_eq_getElem hk]
theorem recsAt_ok (l : List Int) (hl : inB l = true) : ∀ (k : Nat) (i : Int), 0 ≤ i → i + 5 * (k : Int) = (l.length : Int) → (recsAt l k i).2 = true →
    (recsAt l k i).1.length = k ∧ l.drop i.toNat = (recsAt l k i).1.flatMap recB ∧ ∀ r ∈ (recsAt l k i).1, r.2.1 ≤ 65535
  | 0, i, h0, h, _ => ⟨rfl, by rw [List.drop_of_length_le (by omega)]; rfl, fun r hr => by simp [recsAt] at hr⟩
  | k + 1, i, h0, h, hr => by
    unfold recsAt at hr ⊢
    split at hr
    · cases hr
    · rename_i hv
      rw [if_neg hv]
      dsimp only at hr ⊢
      obtain ⟨i1, i2, i3⟩ := recsAt_ok l hl k (i + 5) (by omega) (by omega) hr
      obtain ⟨b1, b2⟩ := getD_byte l hl (i + 4).toNat (by omega)
      refine ⟨by simp [i1], ?_, fun r hr' => ?_⟩
      · rw [List.flatMap_cons, ← i2]
        have hs : stateL (recAt l i) = l.getD (i + 4).toNat 0 := by
          unfold recAt stateL
          dsimp only
          generalize l.getD (i + 4).toNat 0 = v at *
          by_cases h6 : v ≥ 64
          · rw [if_pos (by simpa using h6)]; omega
          · rw [if_neg (by simpa using h6)]; omega
        unfold recB
        rw [hs, be1 _ b1 (by omega)]
        unfold recAt
        dsimp only
        have e1 := be_seg l hl i 2 h0 (by omega) (by omega)
        have e2 := be_seg l hl (i + 2) 2 (by omega) (by omega) (by omega)
        rw [n2] at e1 e2
        rw [e1, e2, drop_seg l i 2 h0 (by omega), drop_seg l (i + 2) 2 (by omega) (by omega)]
        have e3 : (i + 2 + 2).toNat = (i + 4).toNat := by congr 1; omega
        have e4 : (i + 5).toNat = (i + 4).toNat + 1 := by omega
        rw [e3, drop_one l (i + 4).toNat (by omega), e4]
        simp
      · rcases List.mem_cons.1 hr' with rfl | hr'
        · exact (numB_two l hl (i + 2) (by omega) (by omega)).2
        · exact i3 r hr'
/-- what the law reads is what is written -/
theorem msg_image (l : List Int) (hl : inB l = true) (h : (msgL l).2.2.2.2.2.2.2.2 = true) :
    fits1 (msgL l).1 (msgL l).2.1 (msgL l).2.2.1 (msgL l).2.2.2.1 (msgL l).2.2.2.2.1 (msgL l).2.2.2.2.2.1 (msgL l).2.2.2.2.2.2.1 0 0 0 (msgL l).2.2.2.2.2.2.2.1 = true ∧
    bodyF (msgL l).1 (msgL l).2.1 (msgL l).2.2.1 (msgL l).2.2.2.1 (msgL l).2.2.2.2.1 (msgL l).2.2.2.2.2.1 (msgL l).2.2.2.2.2.2.1 (msgL l).2.2.2.2.2.2.2.1 = l := by
  unfold msgL at h ⊢
  by_cases hc : l.length < 15 ∨ (l.length : Int) ≠ 15 + 5 * l.getD 14 0
  · rw [if_pos hc] at h; cases h
  · rw [if_neg hc] at h ⊢
    have h15 : 15 ≤ l.length := by
      rcases Nat.lt_or_ge l.length 15 with k | k
      · exact absurd (.inl k) hc
      · exact k
    have hn : (l.length : Int) = 15 + 5 * l.getD 14 0 := by
      by_cases k : (l.length : Int) = 15 + 5 * l.getD 14 0
      · exact k
      · exact absurd (.inr k) hc
    obtain ⟨b1, b2⟩ := getD_byte l hl 14 (by omega)
    obtain ⟨c1, c2⟩ := getD_byte l hl 0 (by omega)
    obtain ⟨d1, d2⟩ := getD_byte l hl 9 (by omega)
    dsimp only at h ⊢
    by_cases hr : (recsAt l (l.getD 14 0).toNat 15).2 = true
    · rw [if_pos hr] at h ⊢
      obtain ⟨r1, r2, r3⟩ := recsAt_ok l hl (l.getD 14 0).toNat 15 (by omega) (by omega) hr
      have rb := (recsAt_bare l (l.getD 14 0).toNat 15).2
      generalize hrs : (recsAt l (l.getD 14 0).toNat 15).1 = recs at *
      unfold msgEnd at h ⊢
      by_cases hv : (validF (l.getD 0 0) (numB (seg l 1 2)) (numB (seg l 3 6)) (l.getD 9 0 / 16) (l.getD 9 0 % 16) (numB (seg l 10 2)) (numB (seg l 12 2)) 0 0 0 recs && !(l.getD 0 0 == 9)) = true
      · rw [if_pos hv]
        dsimp only
        rw [Bool.and_eq_true] at hv
        constructor
        · rw [fits_same]
          unfold fitsL
          have h9 : (l.getD 0 0 == 9) = false := by simpa using hv.2
          rw [hv.1, h9]
          have hfg : ∀ (x : List (Int × Int × Int × (Int × Int) × Bool × List (Int × List Int))), (∀ r ∈ x, r.2.1 ≤ 65535) → (∀ r ∈ x, r.2.2.2.2.2 = []) → fitGo x = true := by
            intro x
            induction x with
            | nil => intro _ _; rfl
            | cons y x ih =>
              intro k1 k2
              unfold fitGo
              have k3 := k1 y (by simp)
              rw [k2 y (by simp), if_neg (by simp; omega)]
              exact ih (fun r hr => k1 r (by simp [hr])) (fun r hr => k2 r (by simp [hr]))
          simp [hfg recs r3 rb]
        · unfold bodyF headB
          have hlen : (recs.length : Int) = l.getD 14 0 := by omega
          rw [hlen, ← r2, show l.getD 9 0 / 16 * 16 + l.getD 9 0 % 16 = l.getD 9 0 from by omega, be1 _ c1 (by omega), be1 _ d1 (by omega), be1 _ b1 (by omega)]
          have e1 := be_seg l hl 1 2 (by omega) (by omega) (by omega)
          have e2 := be_seg l hl 3 6 (by omega) (by omega) (by omega)
          have e3 := be_seg l hl 10 2 (by omega) (by omega) (by omega)
          have e4 := be_seg l hl 12 2 (by omega) (by omega) (by omega)
          rw [n2] at e1 e3 e4
          rw [n6] at e2
          rw [e1, e2, e3, e4]
          have t0 := drop_one l 0 (by omega)
          have t1 := drop_seg l 1 2 (by omega) (by omega)
          have t2 := drop_seg l 3 6 (by omega) (by omega)
          have t3 := drop_one l 9 (by omega)
          have t4 := drop_seg l 10 2 (by omega) (by omega)
          have t5 := drop_seg l 12 2 (by omega) (by omega)
          have t6 := drop_one l 14 (by omega)
          have u0 : l = l.getD 0 0 :: (seg l 1 2 ++ (seg l 3 6 ++ (l.getD 9 0 :: (seg l 10 2 ++ (seg l 12 2 ++ (l.getD 14 0 :: l.drop (15 : Int).toNat)))))) := by
            have k5 : l.drop (12 : Int).toNat = seg l 12 2 ++ (l.getD 14 0 :: l.drop (15 : Int).toNat) := t5.trans (congrArg _ t6)
            have k4 : l.drop (10 : Int).toNat = seg l 10 2 ++ (seg l 12 2 ++ (l.getD 14 0 :: l.drop (15 : Int).toNat)) := t4.trans (congrArg _ k5)
            have k3 : l.drop 9 = l.getD 9 0 :: (seg l 10 2 ++ (seg l 12 2 ++ (l.getD 14 0 :: l.drop (15 : Int).toNat))) := t3.trans (congrArg _ k4)
            have k2 : l.drop (3 : Int).toNat = seg l 3 6 ++ (l.getD 9 0 :: (seg l 10 2 ++ (seg l 12 2 ++ (l.getD 14 0 :: l.drop (15 : Int).toNat)))) := t2.trans (congrArg _ k3)
            have k1 : l.drop (1 : Int).toNat = seg l 1 2 ++ (seg l 3 6 ++ (l.getD 9 0 :: (seg l 10 2 ++ (seg l 12 2 ++ (l.getD 14 0 :: l.drop (15 : Int).toNat))))) := t1.trans (congrArg _ k2)
            exact (t0.trans (congrArg _ k1))
          conv => rhs; rw [u0]
          simp [List.append_assoc]
      · rw [if_neg hv] at h; cases h
    · rw [if_neg hr] at h; cases h
end Go.Proofs.Ytlmljpmohljefaa

set_option linter.unusedVariables false
namespace Go.Proofs.Ytlmljpmohljefaa
open Go.Den
theorem s_num60_det : SumDet s_num60 := fun avs objs R κ => by
  show s_num60.run avs objs (two κ) = (s_num60.run avs objs (two some)).bind κ
  unfold s_num60
  simp only
  split
  · first | rfl | (split <;> rfl)
  · rfl
theorem s_num60_ok : SumOk Try.prog 60 s_num60 := by
  have hE : EnvOk Try.prog Num60_E := env_ok (l := []) th_ok any_ok trivial _
  refine sum_ok hE Try.func60 rfl (by kernel_rfl) s_num60 [.raw] Num60.k ?_
  intro R avs objs κ r h
  unfold s_num60 at h
  simp only at h
  split at h
  · rename_i p
    split at h
    case isFalse => cases h
    rename_i hl
    refine ⟨9, _, _, _, (Num60.eq (9) p).trans (Num60.pure p hl), ?_, h⟩
    intro rs ros hk
    unfold Num60.k at hk
    split at hk
    · first | (cases hk; exact ⟨rfl, rfl⟩) | (have e := Option.some.inj hk; rw [← e]; exact ⟨rfl, rfl⟩)
    · cases hk
  · cases h
noncomputable def s_msg1 : Den.Sum := ⟨[.dat (.sl (.int .u8)) false], fun args objs κ => match args, objs with
  | [.d (.sl (.int .u8)) l], [] => if inB l = true then κ [.agg [.d (.int .i64) (msgL l).1, .d (.int .i64) (msgL l).2.1, .d (.int .i64) (msgL l).2.2.1, .d (.int .i64) (msgL l).2.2.2.1, .d (.int .i64) (msgL l).2.2.2.2.1, .d (.int .i64) (msgL l).2.2.2.2.2.1, .d (.int .i64) (msgL l).2.2.2.2.2.2.1, .d (.int .i64) 0, .d (.int .i64) 0, .d (.int .i64) 0, .d (.sl (.pair (.int .i64) (.pair (.int .i64) (.pair (.int .i64) (.pair (.pair (.int .i64) (.int .i64)) (.pair .bool (.sl (.pair (.int .i64) (.sl (.int .u8)))))))))) ((msgL l).2.2.2.2.2.2.2.1)], .d .bool (msgL l).2.2.2.2.2.2.2.2] [] else none
  | _, _ => none⟩
noncomputable def s_msg1b : Den.Sum := ⟨[.dat (.sl (.int .u8)) false], fun args objs κ => match args, objs with
  | [.d (.sl (.int .u8)) l], [] => if inB l = true then (match veil (some (msgL l)) with | none => none | some y => κ [.agg [.d (.int .i64) y.1, .d (.int .i64) y.2.1, .d (.int .i64) y.2.2.1, .d (.int .i64) y.2.2.2.1, .d (.int .i64) y.2.2.2.2.1, .d (.int .i64) y.2.2.2.2.2.1, .d (.int .i64) y.2.2.2.2.2.2.1, .d (.int .i64) 0, .d (.int .i64) 0, .d (.int .i64) 0, .d (.sl (.pair (.int .i64) (.pair (.int .i64) (.pair (.int .i64) (.pair (.pair (.int .i64) (.int .i64)) (.pair .bool (.sl (.pair (.int .i64) (.sl (.int .u8)))))))))) (y.2.2.2.2.2.2.2.1)], .d .bool y.2.2.2.2.2.2.2.2] []) else none
  | _, _ => none⟩
theorem s_msg1_det : SumDet s_msg1 := fun avs objs R κ => by
  show s_msg1.run avs objs (two κ) = (s_msg1.run avs objs (two some)).bind κ
  unfold s_msg1
  simp only
  split
  · first | rfl | (split <;> rfl)
  · rfl
theorem s_msg1_ok : SumOk Try.prog 23 s_msg1 := by
  have hE : EnvOk Try.prog Message1_E := env_ok (l := [(60, s_num60), (20, s_valid)]) th_ok any_ok ⟨⟨s_num60_ok, s_num60_det⟩, ⟨s_valid_ok, s_valid_det⟩, trivial⟩ _
  refine sum_ok hE Try.func23 rfl (by kernel_rfl) s_msg1 [.dat (.pair (.int .i64) (.pair (.int .i64) (.pair (.int .i64) (.pair (.pair (.int .i64) (.int .i64)) (.pair (.int .i64) (.pair (.int .i64) (.pair (.int .i64) (.pair (.int .i64) (.pair (.int .i64) (.sl (.pair (.int .i64) (.pair (.int .i64) (.pair (.int .i64) (.pair (.pair (.int .i64) (.int .i64)) (.pair .bool (.sl (.pair (.int .i64) (.sl (.int .u8))))))))))))))))))) true, .raw] Message1.k ?_
  intro R avs objs κ r h
  unfold s_msg1 at h
  simp only at h
  split at h
  · rename_i l
    split at h
    case isFalse => cases h
    rename_i hl
    refine ⟨300, _, _, _, (Message1.eq (300) l).trans (Message1.pure l hl), ?_, h⟩
    intro rs ros hk
    unfold Message1.k at hk
    split at hk
    · first | (cases hk; exact ⟨rfl, rfl⟩) | (have e := Option.some.inj hk; rw [← e]; exact ⟨rfl, rfl⟩)
    · cases hk
  · cases h
theorem s_msg1b_det : SumDet s_msg1b := fun avs objs R κ => by
  show s_msg1b.run avs objs (two κ) = (s_msg1b.run avs objs (two some)).bind κ
  unfold s_msg1b
  simp only [veil_eq]
  split
  · first | rfl | (split <;> rfl)
  · rfl
theorem s_msg1b_ok : SumOk Try.prog 23 s_msg1b := ⟨s_msg1_ok.1, fun avs objs κ r hr => s_msg1_ok.2 avs objs κ r (by
  unfold s_msg1b at hr
  simp only [veil_eq] at hr
  split at hr
  · exact hr
  · cases hr)⟩
end Go.Proofs.Ytlmljpmohljefaa

/- printed by denfn.py -/
set_option linter.unusedVariables false
namespace Go.Proofs.Ytlmljpmohljefaa
open Go.Den
noncomputable def Gen1Reads_E : Env := ⟨th, gam [(16, s_awake11), (22, s_decb), (23, s_msg1b), (24, s_alike10)], fun i => ⟨[], [], []⟩⟩
noncomputable def Gen1Reads.k (rs : List AV) (os : List Den.Obj) : Option Bool :=
  match rs, os with
  | [.d .bool r0], [] => some r0
  | _, _ => none
noncomputable def Gen1Reads.b (l : List Int) : Option Bool :=
  (if (decide (((((List.length l)) : Nat) : Int) > (120 : Int))) then some (true) else (if (inB l) then (match (veil (Option.some (decF l))) with | none => none | some y0 => (if (inB l) then (match (veil (Option.some (msgL l))) with | none => none | some y1 => (if (!y1.2.2.2.2.2.2.2.2) then (if (y0.2.2.2.2.2.2.2.2 == (4 : Int)) then (if ((smallRecs y0.2.2.2.2.2.2.2.1) && (smallRecs ([] : List (Int × (Int × (Int × ((Int × Int) × (Bool × (List (Int × (List Int))))))))))) then (if ((y0.1 == 0) && ((y0.2.1 == 0) && ((y0.2.2.1 == 0) && ((y0.2.2.2.1 == 0) && ((y0.2.2.2.2.1 == 0) && ((y0.2.2.2.2.2.1 == 0) && ((y0.2.2.2.2.2.2.1 == 0) && ((0 == 0) && ((0 == 0) && ((0 == 0) && (allGo y0.2.2.2.2.2.2.2.1 ([] : List (Int × (Int × (Int × ((Int × Int) × (Bool × (List (Int × (List Int)))))))))))))))))))) then some (true) else some (false)) else none) else some (false)) else (if (y0.2.2.2.2.2.2.2.2 == (0 : Int)) then (if ((smallRecs y0.2.2.2.2.2.2.2.1) && (smallRecs y1.2.2.2.2.2.2.2.1)) then (if ((y0.1 == y1.1) && ((y0.2.1 == y1.2.1) && ((y0.2.2.1 == y1.2.2.1) && ((y0.2.2.2.1 == y1.2.2.2.1) && ((y0.2.2.2.2.1 == y1.2.2.2.2.1) && ((y0.2.2.2.2.2.1 == y1.2.2.2.2.2.1) && ((y0.2.2.2.2.2.2.1 == y1.2.2.2.2.2.2.1) && ((0 == 0) && ((0 == 0) && ((0 == 0) && (allGo y0.2.2.2.2.2.2.2.1 y1.2.2.2.2.2.2.2.1))))))))))) then some (true) else some (false)) else none) else some (false)))) else none)) else none))
noncomputable def Gen1Reads.f (fuel : Nat) (l : List Int) : Option Bool := Gen1Reads.b l
theorem Gen1Reads.eq (fuel : Nat) (l : List Int) : (denF Gen1Reads_E loopN fuel Try.f5 [.raw] [.d (.sl (.int .u8)) l] [] Gen1Reads.k) = Gen1Reads.f fuel l := by
  kernel_rfl


end Go.Proofs.Ytlmljpmohljefaa

set_option linter.unusedVariables false
set_option linter.unusedSimpArgs false
namespace Go.Proofs.Ytlmljpmohljefaa
open Go.Den
theorem dec_fail (l : List Int) (h : (decF l).2.2.2.2.2.2.2.2 ≠ 0) : decF l = (0, 0, 0, 0, 0, 0, 0, [], 4) := by
  unfold decF endF at h ⊢
  dsimp only at h ⊢
  split
  · rename_i hc
    rw [if_pos hc] at h
    exact absurd rfl h
  · rfl
theorem Gen1Reads.pure (l : List Int) (hl : ∀ c ∈ l, 0 ≤ c ∧ c ≤ 255) : Gen1Reads.f 0 l = some true := by
  unfold Gen1Reads.f Gen1Reads.b
  by_cases h : ((l.length : Nat) : Int) > 120
  · rw [if_pos (by simpa using h)]
  have hb : inB l = true := (inB_iff l).2 ⟨by omega, hl⟩
  rw [if_neg (by simpa using h), if_pos hb, veil_eq, veil_eq]
  dsimp only
  rw [if_pos hb]
  by_cases hd : (decF l).2.2.2.2.2.2.2.2 = 0
  · obtain ⟨i1, i2, i3⟩ := image l hb hd
    have hm := msg_back _ _ _ _ _ _ _ _ i1
    rw [i2] at hm
    rw [hm]
    dsimp only
    rw [if_neg (by simp), if_pos (by simpa using hd), i3, allGo_self]
    simp
  · rw [dec_fail l hd]
    dsimp only
    by_cases hm : (msgL l).2.2.2.2.2.2.2.2 = true
    · obtain ⟨i1, i2⟩ := msg_image l hb hm
      have hk := back _ _ _ _ _ _ _ _ i1
      rw [i2] at hk
      exact absurd (by rw [hk]) hd
    · rw [if_pos (by simpa using hm)]
      rfl
end Go.Proofs.Ytlmljpmohljefaa

