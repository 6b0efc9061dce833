/- printed by denfn.py -/
import Derived.Test.YtpgcdengljfojaaTh
import Derived.Test.YtpgcdengljfojaaG5
set_option linter.unusedVariables false
namespace Go.Proofs.Ytpgcdengljfojaa
open Go.Den
noncomputable def s24 : Den.Sum := ⟨[.dat (.pair (.int .i64) (.int .i64)) true, .raw], fun args objs κ => match args, objs with
  | [.agg [.d (.int .i64) a, .d (.int .i64) b], .d (.int .i64) m], [] => κ [.d .bool (okS a b && (decide (a ≤ m) && decide (m ≤ b)))] []
  | _, _ => none⟩
noncomputable def ofGo : List (Int × Int) → Int → Int × Int × Bool
  | [], c => (0, 0, false)
  | s :: l, c => if (codeF s.1 s.2 == c) = true then (s.1, s.2, true) else ofGo l c
noncomputable def s26 : Den.Sum := ⟨[.raw], fun args objs κ => match args, objs with
  | [.d (.int .i64) c], [] => κ [.agg [.d (.int .i64) (ofGo allF c).1, .d (.int .i64) (ofGo allF c).2.1], .d .bool (ofGo allF c).2.2] []
  | _, _ => none⟩
noncomputable def chr (n : Int) : UInt8 := (UInt8.ofNat n.toNat)
noncomputable def textF (a b : Int) : ByteArray := if okS a b = true then ⟨#[chr (48 + a), 45, chr (48 + b)]⟩ else ⟨#[]⟩
noncomputable def s21 : Den.Sum := ⟨[.dat (.pair (.int .i64) (.int .i64)) true], fun args objs κ => match args, objs with
  | [.agg [.d (.int .i64) a, .d (.int .i64) b]], [] => κ [.d .str (textF a b)] []
  | _, _ => none⟩
noncomputable def Has_E : Env := ⟨th, gam [(23, s23)], fun i => ⟨[], [], []⟩⟩
noncomputable def Has.k (rs : List AV) (os : List Den.Obj) : Option Bool :=
  match rs, os with
  | [.d .bool r0], [] => some r0
  | _, _ => none
noncomputable def Has.b (a : Int) (b : Int) (m : Int) : Option Bool :=
  (if (((decide (1 ≤ a)) && (decide (a ≤ b))) && (decide (b ≤ 3))) then (if (decide (a ≤ m)) then some ((decide (m ≤ b))) else some (false)) else some (false))
noncomputable def Has.f (fuel : Nat) (a : Int) (b : Int) (m : Int) : Option Bool := Has.b a b m
theorem Has.eq (fuel : Nat) (a : Int) (b : Int) (m : Int) : (denF Has_E loopN fuel Try.f24 [.raw] [.agg [.d (.int .i64) a, .d (.int .i64) b], .d (.int .i64) m] [] Has.k) = Has.f fuel a b m := by
  kernel_rfl


noncomputable def Of_E : Env := ⟨th, gam [(22, s22), (25, s25)], fun i => if i = 2 then ⟨[0, 2, 6, 7, 8], [], []⟩ else ⟨[], [], []⟩⟩
noncomputable def Of.k (rs : List AV) (os : List Den.Obj) : Option (Int × Int × Bool) :=
  match rs, os with
  | [.agg [.d (.int .i64) r0, .d (.int .i64) r1], .d .bool r2], [] => some (r0, r1, r2)
  | _, _ => none
noncomputable def Of.s2 (c : Int) (x0 : Int) (x1 : Int) : St := ⟨[.d (.int .i64) (c), .dead, .ptr 64 0, .dead, .dead, .dead, .row 65, .d (.int .i64) x0, .d (.int .i64) x1, .dead, .dead, .dead, .dead, .dead, .dead, .dead, .dead, .dead, .dead], ofL [(64, .box [.d (.int .i64) (0), .d (.int .i64) (0)]), (65, .row 33 (.pair (.int .i64) (.int .i64)) (allF) false)], 0⟩
noncomputable def Of.b2 (c : Int) (A2 : Int → Int → Option (Int × Int × Bool)) (x0 : Int) (x1 : Int) : Option (Int × Int × Bool) :=
  (if (decide (x1 < x0)) then (match (idx allF x1) with | none => none | some y2 => (match (idx allF x1) with | none => none | some y3 => (if ((codeF y3.1 y3.2) == c) then some (y3.1, y3.2, true) else A2 x0 (Go.IntKind.wrap .i64 (x1 + (1 : Int)))))) else some (0, 0, false))
noncomputable def Of.l2 (fuel : Nat) (c : Int) : Nat → Int → Int → Option (Int × Int × Bool)
  | 0, _, _ => none
  | k + 1, x0, x1 => Of.b2 c (Of.l2 fuel c k) x0 x1
noncomputable def Of.b (c : Int) (E2 : Int → Int → Option (Int × Int × Bool)) : Option (Int × Int × Bool) :=
  E2 ((((List.length allF)) : Nat) : Int) (0 : Int)
noncomputable def Of.f (fuel : Nat) (c : Int) : Option (Int × Int × Bool) := Of.b c (Of.l2 fuel c fuel)
theorem Of.l2_eq (fuel : Nat) (c : Int) : ∀ (k : Nat) (x0 : Int) (x1 : Int), lp Of_E fuel Try.f26 [.dat (.pair (.int .i64) (.int .i64)) true, .raw] 0 Of.k 2 [] k (Of.s2 c x0 x1) = Of.l2 fuel c k x0 x1 := by
  intro k
  induction k with
  | zero => intro x0 x1; rfl
  | succ k ih =>
    intro x0 x1
    have h : lp Of_E fuel Try.f26 [.dat (.pair (.int .i64) (.int .i64)) true, .raw] 0 Of.k 2 [] (k + 1) (Of.s2 c x0 x1) = Of.b2 c (fun x0 x1 => lp Of_E fuel Try.f26 [.dat (.pair (.int .i64) (.int .i64)) true, .raw] 0 Of.k 2 [] k (Of.s2 c x0 x1)) x0 x1 := by kernel_rfl
    rw [h]
    have e2 : (fun x0 x1 => lp Of_E fuel Try.f26 [.dat (.pair (.int .i64) (.int .i64)) true, .raw] 0 Of.k 2 [] k (Of.s2 c x0 x1)) = Of.l2 fuel c k := (funext fun x0 => (funext fun x1 => ih x0 x1))
    rw [e2]
    rfl
theorem Of.eq (fuel : Nat) (c : Int) : (denF Of_E loopN fuel Try.f26 [.dat (.pair (.int .i64) (.int .i64)) true, .raw] [.d (.int .i64) c] [] Of.k) = Of.f fuel c := by
  have h : (denF Of_E loopN fuel Try.f26 [.dat (.pair (.int .i64) (.int .i64)) true, .raw] [.d (.int .i64) c] [] Of.k) = Of.b c (fun x0 x1 => lp Of_E fuel Try.f26 [.dat (.pair (.int .i64) (.int .i64)) true, .raw] 0 Of.k 2 [] fuel (Of.s2 c x0 x1)) := by kernel_rfl
  rw [h]
  have e2 : (fun x0 x1 => lp Of_E fuel Try.f26 [.dat (.pair (.int .i64) (.int .i64)) true, .raw] 0 Of.k 2 [] fuel (Of.s2 c x0 x1)) = Of.l2 fuel c fuel := (funext fun x0 => (funext fun x1 => Of.l2_eq fuel c fuel x0 x1))
  rw [e2]
  rfl


noncomputable def Text_E : Env := ⟨th, gam [(23, s23)], fun i => ⟨[], [], []⟩⟩
noncomputable def Text.k (rs : List AV) (os : List Den.Obj) : Option ByteArray :=
  match rs, os with
  | [.d .str r0], [] => some r0
  | _, _ => none
noncomputable def Text.b (a : Int) (b : Int) : Option ByteArray :=
  (if (!(((decide (1 ≤ a)) && (decide (a ≤ b))) && (decide (b ≤ 3)))) then some ((⟨([]).toArray⟩ : ByteArray)) else some ((strOf ((Go.IntKind.wrap .u8 (Go.IntKind.wrap .i64 ((48 : Int) + a))) :: ((45 : Int) :: ((Go.IntKind.wrap .u8 (Go.IntKind.wrap .i64 ((48 : Int) + b))) :: []))))))
noncomputable def Text.f (fuel : Nat) (a : Int) (b : Int) : Option ByteArray := Text.b a b
theorem Text.eq (fuel : Nat) (a : Int) (b : Int) : (denF Text_E loopN fuel Try.f21 [.raw] [.agg [.d (.int .i64) a, .d (.int .i64) b]] [] Text.k) = Text.f fuel a b := by
  kernel_rfl


noncomputable def SpanCommons_E : Env := ⟨th, gam [(17, s17), (18, s18), (15, s15), (16, s16)], fun i => if i = 7 then ⟨[0, 3, 4, 5, 6, 7], [], []⟩ else if i = 17 then ⟨[0, 4, 8, 9], [], []⟩ else if i = 20 then ⟨[0, 4, 8, 9, 10], [], []⟩ else ⟨[], [], []⟩⟩
noncomputable def SpanCommons.k (rs : List AV) (os : List Den.Obj) : Option Bool :=
  match rs, os with
  | [.d .bool r0], [] => some r0
  | _, _ => none
noncomputable def SpanCommons.s20 (l : List (Int × Int)) (x9 : Bool) (x10 : Bool) (x11 : Int) (x12 : Int) : St := ⟨[.d (.sl (.pair (.int .i64) (.int .i64))) (l), .dead, .dead, .dead, .d .bool x9, .dead, .dead, .dead, .d .bool x10, .d (.int .i64) x11, .d (.int .i64) x12, .dead, .dead, .dead, .dead, .dead, .dead, .dead, .dead, .dead, .dead, .dead, .dead, .dead, .dead, .dead, .dead, .dead, .dead, .dead, .dead, .dead, .dead, .dead, .dead, .dead, .dead, .dead, .dead, .dead, .dead, .dead, .dead, .dead, .dead, .dead, .dead, .dead, .dead, .dead, .dead, .dead, .dead, .dead, .dead, .dead, .dead, .dead, .dead, .dead, .dead, .dead, .dead, .dead, .dead, .dead, .dead, .dead, .dead, .dead, .dead, .dead, .dead, .dead], ofL [], 0⟩
noncomputable def SpanCommons.b20 (l : List (Int × Int)) (A17 : Bool → Bool → Int → Option Bool) (A20 : Bool → Bool → Int → Int → Option Bool) (x9 : Bool) (x10 : Bool) (x11 : Int) (x12 : Int) : Option Bool :=
  (if (decide (x12 ≤ x11)) then (match (idx l x11) with | none => none | some y13 => (match (idx l x12) with | none => none | some y14 => (if ((commonF ((y13.1, y13.2) :: ((y14.1, y14.2) :: []))).2.1 == (0 : Int)) then A20 x9 false x11 (Go.IntKind.wrap .i64 (x12 + (1 : Int))) else A20 x9 x10 x11 (Go.IntKind.wrap .i64 (x12 + (1 : Int)))))) else A17 x9 x10 (Go.IntKind.wrap .i64 (x11 + (1 : Int))))
noncomputable def SpanCommons.l20 (fuel : Nat) (l : List (Int × Int)) (A17 : Bool → Bool → Int → Option Bool) : Nat → Bool → Bool → Int → Int → Option Bool
  | 0, _, _, _, _ => none
  | k + 1, x9, x10, x11, x12 => SpanCommons.b20 l A17 (SpanCommons.l20 fuel l A17 k) x9 x10 x11 x12
noncomputable def SpanCommons.s17 (l : List (Int × Int)) (x6 : Bool) (x7 : Bool) (x8 : Int) : St := ⟨[.d (.sl (.pair (.int .i64) (.int .i64))) (l), .dead, .dead, .dead, .d .bool x6, .dead, .dead, .dead, .d .bool x7, .d (.int .i64) x8, .dead, .dead, .dead, .dead, .dead, .dead, .dead, .dead, .dead, .dead, .dead, .dead, .dead, .dead, .dead, .dead, .dead, .dead, .dead, .dead, .dead, .dead, .dead, .dead, .dead, .dead, .dead, .dead, .dead, .dead, .dead, .dead, .dead, .dead, .dead, .dead, .dead, .dead, .dead, .dead, .dead, .dead, .dead, .dead, .dead, .dead, .dead, .dead, .dead, .dead, .dead, .dead, .dead, .dead, .dead, .dead, .dead, .dead, .dead, .dead, .dead, .dead, .dead, .dead], ofL [], 0⟩
noncomputable def SpanCommons.b17 (l : List (Int × Int)) (A17 : Bool → Bool → Int → Option Bool) (E20 : Bool → Bool → Int → Int → Option Bool) (x6 : Bool) (x7 : Bool) (x8 : Int) : Option Bool :=
  (if (decide (x8 < ((((List.length l)) : Nat) : Int))) then E20 x6 x7 x8 (0 : Int) else (if (x7 == x6) then some (true) else some (false)))
noncomputable def SpanCommons.l17 (fuel : Nat) (l : List (Int × Int)) : Nat → Bool → Bool → Int → Option Bool
  | 0, _, _, _ => none
  | k + 1, x6, x7, x8 => SpanCommons.b17 l (SpanCommons.l17 fuel l k) (SpanCommons.l20 fuel l (SpanCommons.l17 fuel l k) fuel) x6 x7 x8
noncomputable def SpanCommons.s7 (l : List (Int × Int)) (x0 : Bool) (x1 : Int) (x2 : Int) (x3 : Int) (x4 : Int) (x5 : Int) : St := ⟨[.d (.sl (.pair (.int .i64) (.int .i64))) (l), .dead, .dead, .ptr 64 0, .d .bool x0, .d (.int .i64) x1, .d (.int .i64) x2, .d (.int .i64) x3, .dead, .dead, .dead, .dead, .dead, .dead, .dead, .dead, .dead, .dead, .dead, .dead, .dead, .dead, .dead, .dead, .dead, .dead, .dead, .dead, .dead, .dead, .dead, .dead, .dead, .dead, .dead, .dead, .dead, .dead, .dead, .dead, .dead, .dead, .dead, .dead, .dead, .dead, .dead, .dead, .dead, .dead, .dead, .dead, .dead, .dead, .dead, .dead, .dead, .dead, .dead, .dead, .dead, .dead, .dead, .dead, .dead, .dead, .dead, .dead, .dead, .dead, .dead, .dead, .dead, .dead], ofL [(64, .box [.d (.int .i64) x4, .d (.int .i64) x5])], 0⟩
noncomputable def SpanCommons.b7 (l : List (Int × Int)) (A7 : Bool → Int → Int → Int → Int → Int → Option Bool) (E17 : Bool → Bool → Int → Option Bool) (x0 : Bool) (x1 : Int) (x2 : Int) (x3 : Int) (x4 : Int) (x5 : Int) : Option Bool :=
  (if (decide (x3 ≥ (1 : Int))) then (if ((List.length l) < (1099511627776 : Nat)) then (if (inGo l x3) then (if (x1 == (0 : Int)) then A7 x0 x3 x3 (Go.IntKind.wrap .i64 (x3 - (1 : Int))) x4 x5 else A7 x0 x1 x3 (Go.IntKind.wrap .i64 (x3 - (1 : Int))) x4 x5) else A7 x0 x1 x2 (Go.IntKind.wrap .i64 (x3 - (1 : Int))) x4 x5) else none) else (if (x4 != x2) then some (false) else (if (x5 != x1) then some (false) else (if (!(x0 == (decide (x1 > (0 : Int))))) then some (false) else E17 x0 true (0 : Int)))))
noncomputable def SpanCommons.l7 (fuel : Nat) (l : List (Int × Int)) : Nat → Bool → Int → Int → Int → Int → Int → Option Bool
  | 0, _, _, _, _, _, _ => none
  | k + 1, x0, x1, x2, x3, x4, x5 => SpanCommons.b7 l (SpanCommons.l7 fuel l k) (SpanCommons.l17 fuel l fuel) x0 x1 x2 x3 x4 x5
noncomputable def SpanCommons.b (l : List (Int × Int)) (E7 : Bool → Int → Int → Int → Int → Int → Option Bool) : Option Bool :=
  (if (decide (((((List.length l)) : Nat) : Int) > (20 : Int))) then some (true) else (if ((List.length l) < (1099511627776 : Nat)) then E7 (commonF l).2.2 (0 : Int) (0 : Int) (3 : Int) (commonF l).1 (commonF l).2.1 else none))
noncomputable def SpanCommons.f (fuel : Nat) (l : List (Int × Int)) : Option Bool := SpanCommons.b l (SpanCommons.l7 fuel l fuel)
theorem SpanCommons.l20_eq (fuel : Nat) (l : List (Int × Int)) (k17 : Nat) : ∀ (k : Nat) (x9 : Bool) (x10 : Bool) (x11 : Int) (x12 : Int), lp SpanCommons_E fuel Try.f5 [.raw] 0 SpanCommons.k 20 [k17] k (SpanCommons.s20 l x9 x10 x11 x12) = SpanCommons.l20 fuel l (fun x6 x7 x8 => lp SpanCommons_E fuel Try.f5 [.raw] 0 SpanCommons.k 17 [] k17 (SpanCommons.s17 l x6 x7 x8)) k x9 x10 x11 x12 := by
  intro k
  induction k with
  | zero => intro x9 x10 x11 x12; rfl
  | succ k ih =>
    intro x9 x10 x11 x12
    have h : lp SpanCommons_E fuel Try.f5 [.raw] 0 SpanCommons.k 20 [k17] (k + 1) (SpanCommons.s20 l x9 x10 x11 x12) = SpanCommons.b20 l (fun x6 x7 x8 => lp SpanCommons_E fuel Try.f5 [.raw] 0 SpanCommons.k 17 [] k17 (SpanCommons.s17 l x6 x7 x8)) (fun x9 x10 x11 x12 => lp SpanCommons_E fuel Try.f5 [.raw] 0 SpanCommons.k 20 [k17] k (SpanCommons.s20 l x9 x10 x11 x12)) x9 x10 x11 x12 := by kernel_rfl
    rw [h]
    have e20 : (fun x9 x10 x11 x12 => lp SpanCommons_E fuel Try.f5 [.raw] 0 SpanCommons.k 20 [k17] k (SpanCommons.s20 l x9 x10 x11 x12)) = SpanCommons.l20 fuel l (fun x6 x7 x8 => lp SpanCommons_E fuel Try.f5 [.raw] 0 SpanCommons.k 17 [] k17 (SpanCommons.s17 l x6 x7 x8)) k := (funext fun x9 => (funext fun x10 => (funext fun x11 => (funext fun x12 => ih x9 x10 x11 x12))))
    rw [e20]
    rfl
theorem SpanCommons.l17_eq (fuel : Nat) (l : List (Int × Int)) : ∀ (k : Nat) (x6 : Bool) (x7 : Bool) (x8 : Int), lp SpanCommons_E fuel Try.f5 [.raw] 0 SpanCommons.k 17 [] k (SpanCommons.s17 l x6 x7 x8) = SpanCommons.l17 fuel l k x6 x7 x8 := by
  intro k
  induction k with
  | zero => intro x6 x7 x8; rfl
  | succ k ih =>
    intro x6 x7 x8
    have h : lp SpanCommons_E fuel Try.f5 [.raw] 0 SpanCommons.k 17 [] (k + 1) (SpanCommons.s17 l x6 x7 x8) = SpanCommons.b17 l (fun x6 x7 x8 => lp SpanCommons_E fuel Try.f5 [.raw] 0 SpanCommons.k 17 [] k (SpanCommons.s17 l x6 x7 x8)) (fun x9 x10 x11 x12 => lp SpanCommons_E fuel Try.f5 [.raw] 0 SpanCommons.k 20 [k] fuel (SpanCommons.s20 l x9 x10 x11 x12)) x6 x7 x8 := by kernel_rfl
    rw [h]
    have e17 : (fun x6 x7 x8 => lp SpanCommons_E fuel Try.f5 [.raw] 0 SpanCommons.k 17 [] k (SpanCommons.s17 l x6 x7 x8)) = SpanCommons.l17 fuel l k := (funext fun x6 => (funext fun x7 => (funext fun x8 => ih x6 x7 x8)))
    rw [e17]
    have e20 : (fun x9 x10 x11 x12 => lp SpanCommons_E fuel Try.f5 [.raw] 0 SpanCommons.k 20 [k] fuel (SpanCommons.s20 l x9 x10 x11 x12)) = SpanCommons.l20 fuel l (fun x6 x7 x8 => lp SpanCommons_E fuel Try.f5 [.raw] 0 SpanCommons.k 17 [] k (SpanCommons.s17 l x6 x7 x8)) fuel := (funext fun x9 => (funext fun x10 => (funext fun x11 => (funext fun x12 => SpanCommons.l20_eq fuel l k fuel x9 x10 x11 x12))))
    rw [e20]
    rw [e17]
    rfl
theorem SpanCommons.l7_eq (fuel : Nat) (l : List (Int × Int)) : ∀ (k : Nat) (x0 : Bool) (x1 : Int) (x2 : Int) (x3 : Int) (x4 : Int) (x5 : Int), lp SpanCommons_E fuel Try.f5 [.raw] 0 SpanCommons.k 7 [] k (SpanCommons.s7 l x0 x1 x2 x3 x4 x5) = SpanCommons.l7 fuel l k x0 x1 x2 x3 x4 x5 := by
  intro k
  induction k with
  | zero => intro x0 x1 x2 x3 x4 x5; rfl
  | succ k ih =>
    intro x0 x1 x2 x3 x4 x5
    have h : lp SpanCommons_E fuel Try.f5 [.raw] 0 SpanCommons.k 7 [] (k + 1) (SpanCommons.s7 l x0 x1 x2 x3 x4 x5) = SpanCommons.b7 l (fun x0 x1 x2 x3 x4 x5 => lp SpanCommons_E fuel Try.f5 [.raw] 0 SpanCommons.k 7 [] k (SpanCommons.s7 l x0 x1 x2 x3 x4 x5)) (fun x6 x7 x8 => lp SpanCommons_E fuel Try.f5 [.raw] 0 SpanCommons.k 17 [] fuel (SpanCommons.s17 l x6 x7 x8)) x0 x1 x2 x3 x4 x5 := by kernel_rfl
    rw [h]
    have e7 : (fun x0 x1 x2 x3 x4 x5 => lp SpanCommons_E fuel Try.f5 [.raw] 0 SpanCommons.k 7 [] k (SpanCommons.s7 l x0 x1 x2 x3 x4 x5)) = SpanCommons.l7 fuel l k := (funext fun x0 => (funext fun x1 => (funext fun x2 => (funext fun x3 => (funext fun x4 => (funext fun x5 => ih x0 x1 x2 x3 x4 x5))))))
    rw [e7]
    have e17 : (fun x6 x7 x8 => lp SpanCommons_E fuel Try.f5 [.raw] 0 SpanCommons.k 17 [] fuel (SpanCommons.s17 l x6 x7 x8)) = SpanCommons.l17 fuel l fuel := (funext fun x6 => (funext fun x7 => (funext fun x8 => SpanCommons.l17_eq fuel l fuel x6 x7 x8)))
    rw [e17]
    rfl
theorem SpanCommons.eq (fuel : Nat) (l : List (Int × Int)) : (denF SpanCommons_E loopN fuel Try.f5 [.raw] [.d (.sl (.pair (.int .i64) (.int .i64))) l] [] SpanCommons.k) = SpanCommons.f fuel l := by
  have h : (denF SpanCommons_E loopN fuel Try.f5 [.raw] [.d (.sl (.pair (.int .i64) (.int .i64))) l] [] SpanCommons.k) = SpanCommons.b l (fun x0 x1 x2 x3 x4 x5 => lp SpanCommons_E fuel Try.f5 [.raw] 0 SpanCommons.k 7 [] fuel (SpanCommons.s7 l x0 x1 x2 x3 x4 x5)) := by kernel_rfl
  rw [h]
  have e7 : (fun x0 x1 x2 x3 x4 x5 => lp SpanCommons_E fuel Try.f5 [.raw] 0 SpanCommons.k 7 [] fuel (SpanCommons.s7 l x0 x1 x2 x3 x4 x5)) = SpanCommons.l7 fuel l fuel := (funext fun x0 => (funext fun x1 => (funext fun x2 => (funext fun x3 => (funext fun x4 => (funext fun x5 => SpanCommons.l7_eq fuel l fuel x0 x1 x2 x3 x4 x5))))))
  rw [e7]
  rfl


noncomputable def SpanHas_E : Env := ⟨th, gam [(17, s17), (19, s19), (22, s22), (23, s23), (24, s24), (25, s25), (26, s26)], fun i => if i = 6 then ⟨[2, 3, 7, 8, 9], [], []⟩ else ⟨[], [], []⟩⟩
noncomputable def SpanHas.k (rs : List AV) (os : List Den.Obj) : Option Bool :=
  match rs, os with
  | [.d .bool r0], [] => some r0
  | _, _ => none
noncomputable def SpanHas.s6 (a : Int) (b : Int) (g : Int) (c : Int) (x0 : Bool) (x1 : Int) : St := ⟨[.dead, .dead, .d (.int .i64) (c), .ptr 64 0, .dead, .dead, .dead, .row 65, .d .bool x0, .d (.int .i64) x1, .dead, .dead, .dead, .dead, .dead, .dead, .dead, .dead, .dead, .dead, .dead, .dead, .dead, .dead, .dead, .dead, .dead, .dead, .dead, .dead, .dead, .dead, .dead, .dead, .dead, .dead, .dead, .dead, .dead, .dead, .dead, .dead, .dead, .dead, .dead, .dead, .dead, .dead, .dead, .dead, .dead, .dead, .dead, .dead, .dead, .dead, .dead, .dead, .dead, .dead, .dead, .dead, .dead, .dead, .dead, .dead, .dead, .dead, .dead, .dead, .dead, .dead, .dead, .dead, .dead, .dead, .dead, .dead, .dead, .dead, .dead, .dead, .dead, .dead, .dead, .dead, .dead, .dead, .dead, .dead, .dead, .dead, .dead, .dead, .dead, .dead, .dead, .dead, .dead, .dead, .dead, .dead, .dead, .dead, .dead, .dead, .dead, .dead, .dead, .dead, .dead, .dead, .dead, .dead, .dead, .dead, .dead, .dead, .dead, .dead, .dead, .dead, .dead, .dead, .dead, .dead, .dead, .dead, .dead, .dead, .dead, .dead, .dead, .dead, .dead, .dead, .dead, .dead, .dead, .dead, .dead, .dead, .dead, .dead, .dead, .dead, .dead, .dead, .dead, .dead, .dead, .dead, .dead, .dead, .dead, .dead, .dead, .dead, .dead, .dead, .dead, .dead, .dead, .dead, .dead, .dead, .dead, .dead, .dead, .dead], ofL [(64, .box [.d (.int .i64) (a), .d (.int .i64) (b)]), (65, .row 33 (.pair (.int .i64) (.int .i64)) (allF) false)], 0⟩
noncomputable def SpanHas.b6 (a : Int) (b : Int) (g : Int) (c : Int) (A6 : Bool → Int → Option Bool) (x0 : Bool) (x1 : Int) : Option Bool :=
  (if (decide (x1 < (6 : Int))) then (match (idx allF x1) with | none => none | some y2 => (match (idx allF x1) with | none => none | some y3 => (if (!(okS y3.1 y3.2)) then some (false) else (if (decide (x1 > (0 : Int))) then (match (idx allF x1) with | none => none | some y4 => (match (idx allF x1) with | none => none | some y5 => (match (idx allF x1) with | none => none | some y6 => (match (idx allF x1) with | none => none | some y7 => (match (idx allF (Go.IntKind.wrap .i64 (x1 - (1 : Int)))) with | none => none | some y8 => (match (idx allF (Go.IntKind.wrap .i64 (x1 - (1 : Int)))) with | none => none | some y9 => (match (idx allF (Go.IntKind.wrap .i64 (x1 - (1 : Int)))) with | none => none | some y10 => (match (idx allF (Go.IntKind.wrap .i64 (x1 - (1 : Int)))) with | none => none | some y11 => (if (decide ((Go.IntKind.wrap .i64 ((Go.IntKind.wrap .i64 (y5.1 * (4 : Int))) + y7.2)) ≤ (Go.IntKind.wrap .i64 ((Go.IntKind.wrap .i64 (y9.1 * (4 : Int))) + y11.2)))) then some (false) else (match (idx allF x1) with | none => none | some y12 => (match (idx allF x1) with | none => none | some y13 => (match (idx allF x1) with | none => none | some y14 => (match (idx allF x1) with | none => none | some y15 => (match (idx allF x1) with | none => none | some y16 => (match (idx allF x1) with | none => none | some y17 => (if ((codeF y13.1 y13.2) != (Go.IntKind.wrap .i64 ((Go.IntKind.wrap .i64 (y15.1 * (16 : Int))) + y17.2))) then some (false) else (match (idx allF x1) with | none => none | some y18 => (match (idx allF x1) with | none => none | some y19 => (match (idx allF x1) with | none => none | some y20 => (match (idx allF x1) with | none => none | some y21 => (if ((Go.IntKind.wrap .i64 ((Go.IntKind.wrap .i64 (y19.1 * (16 : Int))) + y21.2)) == c) then A6 true (Go.IntKind.wrap .i64 (x1 + (1 : Int))) else A6 x0 (Go.IntKind.wrap .i64 (x1 + (1 : Int)))))))))))))))))))))))) else (match (idx allF x1) with | none => none | some y22 => (match (idx allF x1) with | none => none | some y23 => (match (idx allF x1) with | none => none | some y24 => (match (idx allF x1) with | none => none | some y25 => (match (idx allF x1) with | none => none | some y26 => (match (idx allF x1) with | none => none | some y27 => (if ((codeF y23.1 y23.2) != (Go.IntKind.wrap .i64 ((Go.IntKind.wrap .i64 (y25.1 * (16 : Int))) + y27.2))) then some (false) else (match (idx allF x1) with | none => none | some y28 => (match (idx allF x1) with | none => none | some y29 => (match (idx allF x1) with | none => none | some y30 => (match (idx allF x1) with | none => none | some y31 => (if ((Go.IntKind.wrap .i64 ((Go.IntKind.wrap .i64 (y29.1 * (16 : Int))) + y31.2)) == c) then A6 true (Go.IntKind.wrap .i64 (x1 + (1 : Int))) else A6 x0 (Go.IntKind.wrap .i64 (x1 + (1 : Int))))))))))))))))))) else (if (!((ofGo allF c).2.2 == x0)) then some (false) else (if (ofGo allF c).2.2 then (if (!(okS (ofGo allF c).1 (ofGo allF c).2.1)) then some (false) else (if ((Go.IntKind.wrap .i64 ((Go.IntKind.wrap .i64 ((ofGo allF c).1 * (16 : Int))) + (ofGo allF c).2.1)) != c) then some (false) else (if (!(ofGo allF c).2.2) then (if ((ofGo allF c).1 != (0 : Int)) then some (false) else (if ((ofGo allF c).2.1 != (0 : Int)) then some (false) else (if (okS a b) then some (true) else (if ((codeF a b) == (0 : Int)) then some (true) else some (false))))) else (if (okS a b) then some (true) else (if ((codeF a b) == (0 : Int)) then some (true) else some (false)))))) else (if (!(ofGo allF c).2.2) then (if ((ofGo allF c).1 != (0 : Int)) then some (false) else (if ((ofGo allF c).2.1 != (0 : Int)) then some (false) else (if (okS a b) then some (true) else (if ((codeF a b) == (0 : Int)) then some (true) else some (false))))) else (if (okS a b) then some (true) else (if ((codeF a b) == (0 : Int)) then some (true) else some (false)))))))
noncomputable def SpanHas.l6 (fuel : Nat) (a : Int) (b : Int) (g : Int) (c : Int) : Nat → Bool → Int → Option Bool
  | 0, _, _ => none
  | k + 1, x0, x1 => SpanHas.b6 a b g c (SpanHas.l6 fuel a b g c k) x0 x1
noncomputable def SpanHas.b (a : Int) (b : Int) (g : Int) (c : Int) (E6 : Bool → Int → Option Bool) : Option Bool :=
  (if (!((((decide (1 ≤ a)) && (decide (a ≤ b))) && (decide (b ≤ 3))) == (okS a b))) then some (false) else (if (okS a b) then (if (decide (a ≤ g)) then (if (!(((okS a b) && ((decide (a ≤ g)) && (decide (g ≤ b)))) == (decide (g ≤ b)))) then some (false) else E6 false (0 : Int)) else (if (!(((okS a b) && ((decide (a ≤ g)) && (decide (g ≤ b)))) == false)) then some (false) else E6 false (0 : Int))) else (if (!(((okS a b) && ((decide (a ≤ g)) && (decide (g ≤ b)))) == false)) then some (false) else E6 false (0 : Int))))
noncomputable def SpanHas.f (fuel : Nat) (a : Int) (b : Int) (g : Int) (c : Int) : Option Bool := SpanHas.b a b g c (SpanHas.l6 fuel a b g c fuel)
theorem SpanHas.l6_eq (fuel : Nat) (a : Int) (b : Int) (g : Int) (c : Int) : ∀ (k : Nat) (x0 : Bool) (x1 : Int), lp SpanHas_E fuel Try.f7 [.raw] 0 SpanHas.k 6 [] k (SpanHas.s6 a b g c x0 x1) = SpanHas.l6 fuel a b g c k x0 x1 := by
  intro k
  induction k with
  | zero => intro x0 x1; rfl
  | succ k ih =>
    intro x0 x1
    have h : lp SpanHas_E fuel Try.f7 [.raw] 0 SpanHas.k 6 [] (k + 1) (SpanHas.s6 a b g c x0 x1) = SpanHas.b6 a b g c (fun x0 x1 => lp SpanHas_E fuel Try.f7 [.raw] 0 SpanHas.k 6 [] k (SpanHas.s6 a b g c x0 x1)) x0 x1 := by kernel_rfl
    rw [h]
    have e6 : (fun x0 x1 => lp SpanHas_E fuel Try.f7 [.raw] 0 SpanHas.k 6 [] k (SpanHas.s6 a b g c x0 x1)) = SpanHas.l6 fuel a b g c k := (funext fun x0 => (funext fun x1 => ih x0 x1))
    rw [e6]
    rfl
theorem SpanHas.eq (fuel : Nat) (a : Int) (b : Int) (g : Int) (c : Int) : (denF SpanHas_E loopN fuel Try.f7 [.raw] [.agg [.d (.int .i64) a, .d (.int .i64) b], .d (.int .i64) g, .d (.int .i64) c] [] SpanHas.k) = SpanHas.f fuel a b g c := by
  have h : (denF SpanHas_E loopN fuel Try.f7 [.raw] [.agg [.d (.int .i64) a, .d (.int .i64) b], .d (.int .i64) g, .d (.int .i64) c] [] SpanHas.k) = SpanHas.b a b g c (fun x0 x1 => lp SpanHas_E fuel Try.f7 [.raw] 0 SpanHas.k 6 [] fuel (SpanHas.s6 a b g c x0 x1)) := by kernel_rfl
  rw [h]
  have e6 : (fun x0 x1 => lp SpanHas_E fuel Try.f7 [.raw] 0 SpanHas.k 6 [] fuel (SpanHas.s6 a b g c x0 x1)) = SpanHas.l6 fuel a b g c fuel := (funext fun x0 => (funext fun x1 => SpanHas.l6_eq fuel a b g c fuel x0 x1))
  rw [e6]
  rfl


noncomputable def SpanTexts_E : Env := ⟨th, gam [(17, s17), (19, s19), (20, s20), (21, s21), (22, s22)], fun i => if i = 13 then ⟨[1, 7, 8, 9, 10], [], []⟩ else ⟨[], [], []⟩⟩
noncomputable def SpanTexts.k (rs : List AV) (os : List Den.Obj) : Option Bool :=
  match rs, os with
  | [.d .bool r0], [] => some r0
  | _, _ => none
noncomputable def SpanTexts.s13 (a : Int) (b : Int) (t : ByteArray) (x3 : Int) : St := ⟨[.dead, .d .str (t), .dead, .dead, .dead, .dead, .dead, .ptr 64 0, .d (.int .i64) ((parseF t).2.2), .row 65, .d (.int .i64) x3, .dead, .dead, .dead, .dead, .dead, .dead, .dead, .dead, .dead, .dead, .dead, .dead, .dead, .dead, .dead, .dead, .dead, .dead, .dead, .dead, .dead, .dead, .dead, .dead, .dead, .dead, .dead, .dead, .dead, .dead, .dead, .dead, .dead, .dead, .dead, .dead, .dead, .dead, .dead, .dead, .dead, .dead, .dead, .dead, .dead, .dead, .dead, .dead, .dead, .dead, .dead, .dead, .dead, .dead, .dead, .dead, .dead, .dead, .dead, .dead, .dead, .dead, .dead, .dead, .dead, .dead, .dead, .dead, .dead, .dead, .dead, .dead, .dead, .dead, .dead, .dead, .dead, .dead, .dead, .dead, .dead, .dead, .dead, .dead, .dead, .dead, .dead, .dead, .dead, .dead, .dead, .dead, .dead, .dead, .dead, .dead, .dead, .dead, .dead, .dead, .dead], ofL [(64, .box [.d (.int .i64) ((parseF t).1), .d (.int .i64) ((parseF t).2.1)]), (65, .row 33 (.pair (.int .i64) (.int .i64)) (allF) false)], 0⟩
noncomputable def SpanTexts.b13 (a : Int) (b : Int) (t : ByteArray) (A13 : Int → Option Bool) (x3 : Int) : Option Bool :=
  (if (decide (x3 < ((((List.length allF)) : Nat) : Int))) then (match (idx allF x3) with | none => none | some y4 => (match (idx allF x3) with | none => none | some y5 => (if ((ByteArray.toList (textF y5.1 y5.2)) == (ByteArray.toList t)) then some (false) else A13 (Go.IntKind.wrap .i64 (x3 + (1 : Int)))))) else (if ((parseF t).2.2 == (4 : Int)) then (if ((parseF t).1 == (0 : Int)) then (if ((parseF t).2.1 == (0 : Int)) then some (true) else some (false)) else some (false)) else some (false)))
noncomputable def SpanTexts.l13 (fuel : Nat) (a : Int) (b : Int) (t : ByteArray) : Nat → Int → Option Bool
  | 0, _ => none
  | k + 1, x3 => SpanTexts.b13 a b t (SpanTexts.l13 fuel a b t k) x3
noncomputable def SpanTexts.b (a : Int) (b : Int) (t : ByteArray) (E13 : Int → Option Bool) : Option Bool :=
  (if (decide (((((ByteArray.size t)) : Nat) : Int) > (20 : Int))) then some (true) else (if (okS a b) then (if ((parseF (textF a b)).2.2 != (0 : Int)) then some (false) else (if (!(if ((parseF (textF a b)).1 == a) then (if ((parseF (textF a b)).2.1 == b) then true else false) else false)) then some (false) else (if (((((ByteArray.size (textF a b))) : Nat) : Int) != (3 : Int)) then some (false) else (match (idx (Array.toList (ByteArray.data (textF a b))) (0 : Int)) with | none => none | some y0 => (if ((Go.IntKind.wrap .i64 ((((UInt8.toNat y0)) : Nat) : Int)) != (Go.IntKind.wrap .i64 ((48 : Int) + a))) then some (false) else (match (idx (Array.toList (ByteArray.data (textF a b))) (1 : Int)) with | none => none | some y1 => (if (((((UInt8.toNat y1)) : Nat) : Int) != (45 : Int)) then some (false) else (match (idx (Array.toList (ByteArray.data (textF a b))) (2 : Int)) with | none => none | some y2 => (if ((Go.IntKind.wrap .i64 ((((UInt8.toNat y2)) : Nat) : Int)) != (Go.IntKind.wrap .i64 ((48 : Int) + b))) then some (false) else (if ((parseF t).2.2 != (0 : Int)) then E13 (0 : Int) else (if (okS (parseF t).1 (parseF t).2.1) then (if ((ByteArray.toList (textF (parseF t).1 (parseF t).2.1)) == (ByteArray.toList t)) then some (true) else some (false)) else some (false)))))))))))) else (if (!((ByteArray.toList (textF a b)) == (ByteArray.toList (⟨([]).toArray⟩ : ByteArray)))) then some (false) else (if ((parseF t).2.2 != (0 : Int)) then E13 (0 : Int) else (if (okS (parseF t).1 (parseF t).2.1) then (if ((ByteArray.toList (textF (parseF t).1 (parseF t).2.1)) == (ByteArray.toList t)) then some (true) else some (false)) else some (false))))))
noncomputable def SpanTexts.f (fuel : Nat) (a : Int) (b : Int) (t : ByteArray) : Option Bool := SpanTexts.b a b t (SpanTexts.l13 fuel a b t fuel)
theorem SpanTexts.l13_eq (fuel : Nat) (a : Int) (b : Int) (t : ByteArray) : ∀ (k : Nat) (x3 : Int), lp SpanTexts_E fuel Try.f6 [.raw] 0 SpanTexts.k 13 [] k (SpanTexts.s13 a b t x3) = SpanTexts.l13 fuel a b t k x3 := by
  intro k
  induction k with
  | zero => intro x3; rfl
  | succ k ih =>
    intro x3
    have h : lp SpanTexts_E fuel Try.f6 [.raw] 0 SpanTexts.k 13 [] (k + 1) (SpanTexts.s13 a b t x3) = SpanTexts.b13 a b t (fun x3 => lp SpanTexts_E fuel Try.f6 [.raw] 0 SpanTexts.k 13 [] k (SpanTexts.s13 a b t x3)) x3 := by kernel_rfl
    rw [h]
    have e13 : (fun x3 => lp SpanTexts_E fuel Try.f6 [.raw] 0 SpanTexts.k 13 [] k (SpanTexts.s13 a b t x3)) = SpanTexts.l13 fuel a b t k := (funext fun x3 => ih x3)
    rw [e13]
    rfl
theorem SpanTexts.eq (fuel : Nat) (a : Int) (b : Int) (t : ByteArray) : (denF SpanTexts_E loopN fuel Try.f6 [.raw] [.agg [.d (.int .i64) a, .d (.int .i64) b], .d .str t] [] SpanTexts.k) = SpanTexts.f fuel a b t := by
  have h : (denF SpanTexts_E loopN fuel Try.f6 [.raw] [.agg [.d (.int .i64) a, .d (.int .i64) b], .d .str t] [] SpanTexts.k) = SpanTexts.b a b t (fun x3 => lp SpanTexts_E fuel Try.f6 [.raw] 0 SpanTexts.k 13 [] fuel (SpanTexts.s13 a b t x3)) := by kernel_rfl
  rw [h]
  have e13 : (fun x3 => lp SpanTexts_E fuel Try.f6 [.raw] 0 SpanTexts.k 13 [] fuel (SpanTexts.s13 a b t x3)) = SpanTexts.l13 fuel a b t fuel := (funext fun x3 => SpanTexts.l13_eq fuel a b t fuel x3)
  rw [e13]
  rfl


end Go.Proofs.Ytpgcdengljfojaa
