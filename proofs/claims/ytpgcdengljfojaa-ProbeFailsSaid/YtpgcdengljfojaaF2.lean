/- printed by denfn.py -/
import Derived.Test.YtpgcdengljfojaaTh
import Derived.Test.YtpgcdengljfojaaG1
set_option linter.unusedVariables false
namespace Go.Proofs.Ytpgcdengljfojaa
open Go.Den
noncomputable def okS (lo hi : Int) : Bool := decide (1 ≤ lo) && decide (lo ≤ hi) && decide (hi ≤ 3)
noncomputable def commonGo : List (Int × Int) → Int → Int → (Int × Int × Bool)
  | [], a, b => if !okS a b then (0, 0, false) else (a, b, true)
  | s :: l, a, b => if !okS s.1 s.2 then (0, 0, false) else commonGo l (maxI a s.1) (minI b s.2)
noncomputable def commonF (l : List (Int × Int)) : Int × Int × Bool := commonGo l 1 3
noncomputable def s18 : Den.Sum := ⟨[.dat (.sl (.pair (.int .i64) (.int .i64))) false], fun args objs κ => match args, objs with
  | [.d (.sl (.pair (.int .i64) (.int .i64))) l], [] => if l.length < 1099511627776 then κ [.agg [.d (.int .i64) (commonF l).1, .d (.int .i64) (commonF l).2.1], .d .bool (commonF l).2.2] [] else none
  | _, _ => none⟩
noncomputable def s14 : Den.Sum := ⟨[.dat (.pair (.int .i64) (.int .i64)) true, .dat (.pair (.int .i64) (.int .i64)) true], fun args objs κ => match args, objs with
  | [.agg [.d (.int .i64) a, .d (.int .i64) b], .agg [.d (.int .i64) c, .d (.int .i64) d]], [] => κ [.agg [.d (.int .i64) (commonF [(a, b), (c, d)]).1, .d (.int .i64) (commonF [(a, b), (c, d)]).2.1], .d .bool (commonF [(a, b), (c, d)]).2.2] []
  | _, _ => none⟩
noncomputable def Meet_E : Env := ⟨th, gam [(18, s18)], fun i => ⟨[], [], []⟩⟩
noncomputable def Meet.k (rs : List AV) (os : List Den.Obj) : Option (Int × Int × Bool) :=
  match rs, os with
  | [.agg [.d (.int .i64) r0, .d (.int .i64) r1], .d .bool r2], [] => some (r0, r1, r2)
  | _, _ => none
noncomputable def Meet.b (a : Int) (b : Int) (c : Int) (d : Int) : Option (Int × Int × Bool) :=
  some ((commonF ((a, b) :: ((c, d) :: []))).1, (commonF ((a, b) :: ((c, d) :: []))).2.1, (commonF ((a, b) :: ((c, d) :: []))).2.2)
noncomputable def Meet.f (fuel : Nat) (a : Int) (b : Int) (c : Int) (d : Int) : Option (Int × Int × Bool) := Meet.b a b c d
theorem Meet.eq (fuel : Nat) (a : Int) (b : Int) (c : Int) (d : Int) : (denF Meet_E loopN fuel Try.f14 [.dat (.pair (.int .i64) (.int .i64)) true, .raw] [.agg [.d (.int .i64) a, .d (.int .i64) b], .agg [.d (.int .i64) c, .d (.int .i64) d]] [] Meet.k) = Meet.f fuel a b c d := by
  kernel_rfl


noncomputable def Best_E : Env := ⟨th, gam [(18, s18)], fun i => ⟨[], [], []⟩⟩
noncomputable def Best.k (rs : List AV) (os : List Den.Obj) : Option Int :=
  match rs, os with
  | [.d (.int .i64) r0], [] => some r0
  | _, _ => none
noncomputable def Best.b (a : Int) (b : Int) (c : Int) (d : Int) : Option Int :=
  some ((commonF ((a, b) :: ((c, d) :: []))).2.1)
noncomputable def Best.f (fuel : Nat) (a : Int) (b : Int) (c : Int) (d : Int) : Option Int := Best.b a b c d
theorem Best.eq (fuel : Nat) (a : Int) (b : Int) (c : Int) (d : Int) : (denF Best_E loopN fuel Try.f16 [.raw] [.agg [.d (.int .i64) a, .d (.int .i64) b], .agg [.d (.int .i64) c, .d (.int .i64) d]] [] Best.k) = Best.f fuel a b c d := by
  kernel_rfl


noncomputable def Code_E : Env := ⟨th, gam [(23, s23)], fun i => ⟨[], [], []⟩⟩
noncomputable def Code.k (rs : List AV) (os : List Den.Obj) : Option Int :=
  match rs, os with
  | [.d (.int .i64) r0], [] => some r0
  | _, _ => none
noncomputable def Code.b (a : Int) (b : Int) : Option Int :=
  (if (!(((decide (1 ≤ a)) && (decide (a ≤ b))) && (decide (b ≤ 3)))) then some ((0 : Int)) else some ((bits Go.BinOp.or .i64 (Go.IntKind.wrap .i64 (a * ((2 : Int) ^ (Min.min (Int.toNat (4 : Int)) (Go.IntKind.bits .i64))))) b)))
noncomputable def Code.f (fuel : Nat) (a : Int) (b : Int) : Option Int := Code.b a b
theorem Code.eq (fuel : Nat) (a : Int) (b : Int) : (denF Code_E loopN fuel Try.f25 [.raw] [.agg [.d (.int .i64) a, .d (.int .i64) b]] [] Code.k) = Code.f fuel a b := by
  kernel_rfl


noncomputable def may_E : Env := ⟨th, gam [(23, s23)], fun i => if i = 2 then ⟨[1, 3], [], []⟩ else if i = 5 then ⟨[1, 3, 4], [], []⟩ else ⟨[], [], []⟩⟩
noncomputable def may.k (rs : List AV) (os : List Den.Obj) : Option Bool :=
  match rs, os with
  | [.d .bool r0], [] => some r0
  | _, _ => none
noncomputable def may.s5 (a : Int) (b : Int) (x1 : Int) (x2 : Int) : St := ⟨[.dead, .ptr 64 0, .dead, .d (.int .i64) x1, .d (.int .i64) x2, .dead, .dead, .dead, .dead, .dead, .dead, .dead, .dead, .dead, .dead, .dead, .dead, .dead, .dead, .dead, .dead, .dead, .dead, .dead], ofL [(64, .box [.d (.int .i64) (a), .d (.int .i64) (b)])], 0⟩
noncomputable def may.b5 (a : Int) (b : Int) (A2 : Int → Option Bool) (A5 : Int → Int → Option Bool) (x1 : Int) (x2 : Int) : Option Bool :=
  (if (decide (x2 ≤ (3 : Int))) then (if (a == x1) then (if (b == x2) then some (true) else A5 x1 (Go.IntKind.wrap .i64 (x2 + (1 : Int)))) else A5 x1 (Go.IntKind.wrap .i64 (x2 + (1 : Int)))) else A2 (Go.IntKind.wrap .i64 (x1 + (1 : Int))))
noncomputable def may.l5 (fuel : Nat) (a : Int) (b : Int) (A2 : Int → Option Bool) : Nat → Int → Int → Option Bool
  | 0, _, _ => none
  | k + 1, x1, x2 => may.b5 a b A2 (may.l5 fuel a b A2 k) x1 x2
noncomputable def may.s2 (a : Int) (b : Int) (x0 : Int) : St := ⟨[.dead, .ptr 64 0, .dead, .d (.int .i64) x0, .dead, .dead, .dead, .dead, .dead, .dead, .dead, .dead, .dead, .dead, .dead, .dead, .dead, .dead, .dead, .dead, .dead, .dead, .dead, .dead], ofL [(64, .box [.d (.int .i64) (a), .d (.int .i64) (b)])], 0⟩
noncomputable def may.b2 (a : Int) (b : Int) (A2 : Int → Option Bool) (E5 : Int → Int → Option Bool) (x0 : Int) : Option Bool :=
  (if (decide (x0 ≤ (3 : Int))) then E5 x0 x0 else some (false))
noncomputable def may.l2 (fuel : Nat) (a : Int) (b : Int) : Nat → Int → Option Bool
  | 0, _ => none
  | k + 1, x0 => may.b2 a b (may.l2 fuel a b k) (may.l5 fuel a b (may.l2 fuel a b k) fuel) x0
noncomputable def may.b (a : Int) (b : Int) (E2 : Int → Option Bool) : Option Bool :=
  E2 (1 : Int)
noncomputable def may.f (fuel : Nat) (a : Int) (b : Int) : Option Bool := may.b a b (may.l2 fuel a b fuel)
theorem may.l5_eq (fuel : Nat) (a : Int) (b : Int) (k2 : Nat) : ∀ (k : Nat) (x1 : Int) (x2 : Int), lp may_E fuel Try.f19 [.raw] 0 may.k 5 [k2] k (may.s5 a b x1 x2) = may.l5 fuel a b (fun x0 => lp may_E fuel Try.f19 [.raw] 0 may.k 2 [] k2 (may.s2 a b x0)) k x1 x2 := by
  intro k
  induction k with
  | zero => intro x1 x2; rfl
  | succ k ih =>
    intro x1 x2
    have h : lp may_E fuel Try.f19 [.raw] 0 may.k 5 [k2] (k + 1) (may.s5 a b x1 x2) = may.b5 a b (fun x0 => lp may_E fuel Try.f19 [.raw] 0 may.k 2 [] k2 (may.s2 a b x0)) (fun x1 x2 => lp may_E fuel Try.f19 [.raw] 0 may.k 5 [k2] k (may.s5 a b x1 x2)) x1 x2 := by kernel_rfl
    rw [h]
    have e5 : (fun x1 x2 => lp may_E fuel Try.f19 [.raw] 0 may.k 5 [k2] k (may.s5 a b x1 x2)) = may.l5 fuel a b (fun x0 => lp may_E fuel Try.f19 [.raw] 0 may.k 2 [] k2 (may.s2 a b x0)) k := (funext fun x1 => (funext fun x2 => ih x1 x2))
    rw [e5]
    rfl
theorem may.l2_eq (fuel : Nat) (a : Int) (b : Int) : ∀ (k : Nat) (x0 : Int), lp may_E fuel Try.f19 [.raw] 0 may.k 2 [] k (may.s2 a b x0) = may.l2 fuel a b k x0 := by
  intro k
  induction k with
  | zero => intro x0; rfl
  | succ k ih =>
    intro x0
    have h : lp may_E fuel Try.f19 [.raw] 0 may.k 2 [] (k + 1) (may.s2 a b x0) = may.b2 a b (fun x0 => lp may_E fuel Try.f19 [.raw] 0 may.k 2 [] k (may.s2 a b x0)) (fun x1 x2 => lp may_E fuel Try.f19 [.raw] 0 may.k 5 [k] fuel (may.s5 a b x1 x2)) x0 := by kernel_rfl
    rw [h]
    have e2 : (fun x0 => lp may_E fuel Try.f19 [.raw] 0 may.k 2 [] k (may.s2 a b x0)) = may.l2 fuel a b k := (funext fun x0 => ih x0)
    rw [e2]
    have e5 : (fun x1 x2 => lp may_E fuel Try.f19 [.raw] 0 may.k 5 [k] fuel (may.s5 a b x1 x2)) = may.l5 fuel a b (fun x0 => lp may_E fuel Try.f19 [.raw] 0 may.k 2 [] k (may.s2 a b x0)) fuel := (funext fun x1 => (funext fun x2 => may.l5_eq fuel a b k fuel x1 x2))
    rw [e5]
    rw [e2]
    rfl
theorem may.eq (fuel : Nat) (a : Int) (b : Int) : (denF may_E loopN fuel Try.f19 [.raw] [.agg [.d (.int .i64) a, .d (.int .i64) b]] [] may.k) = may.f fuel a b := by
  have h : (denF may_E loopN fuel Try.f19 [.raw] [.agg [.d (.int .i64) a, .d (.int .i64) b]] [] may.k) = may.b a b (fun x0 => lp may_E fuel Try.f19 [.raw] 0 may.k 2 [] fuel (may.s2 a b x0)) := by kernel_rfl
  rw [h]
  have e2 : (fun x0 => lp may_E fuel Try.f19 [.raw] 0 may.k 2 [] fuel (may.s2 a b x0)) = may.l2 fuel a b fuel := (funext fun x0 => may.l2_eq fuel a b fuel x0)
  rw [e2]
  rfl


noncomputable def All_E : Env := ⟨th, gam [], fun i => if i = 3 then ⟨[1, 2], [(1, 33, (.pair (.int .i64) (.int .i64)))], []⟩ else if i = 6 then ⟨[1, 2, 3], [], []⟩ else ⟨[], [], []⟩⟩
noncomputable def All.k (rs : List AV) (os : List Den.Obj) : Option (List (Int × Int)) :=
  match rs, os with
  | [.row 0], [.row 33 (.pair (.int .i64) (.int .i64)) r0 false] => some r0
  | _, _ => none
noncomputable def All.s6 (u : Unit) (x2 : Int) (x3 : Int) (x4 : (List (Int × Int))) : St := ⟨[.dead, .row 64, .d (.int .i64) x2, .d (.int .i64) x3, .dead, .dead, .dead, .dead, .dead, .dead, .dead, .dead, .dead, .dead, .dead, .dead, .dead, .dead, .dead, .dead], ofL [(64, .row 33 (.pair (.int .i64) (.int .i64)) x4 false)], 0⟩
noncomputable def All.b6 (u : Unit) (A3 : Int → (List (Int × Int)) → Option (List (Int × Int))) (A6 : Int → Int → (List (Int × Int)) → Option (List (Int × Int))) (x2 : Int) (x3 : Int) (x4 : (List (Int × Int))) : Option (List (Int × Int)) :=
  (if (decide (x3 ≤ (3 : Int))) then (if ((((List.length x4) + (List.length ((x2, x3) :: []))) * (16 : Nat)) ≤ lim) then A6 x2 (Go.IntKind.wrap .i64 (x3 + (1 : Int))) (x4 ++ ((x2, x3) :: [])) else none) else A3 (Go.IntKind.wrap .i64 (x2 + (1 : Int))) x4)
noncomputable def All.l6 (fuel : Nat) (u : Unit) (A3 : Int → (List (Int × Int)) → Option (List (Int × Int))) : Nat → Int → Int → (List (Int × Int)) → Option (List (Int × Int))
  | 0, _, _, _ => none
  | k + 1, x2, x3, x4 => All.b6 u A3 (All.l6 fuel u A3 k) x2 x3 x4
noncomputable def All.s3 (u : Unit) (x0 : Int) (x1 : (List (Int × Int))) : St := ⟨[.dead, .row 64, .d (.int .i64) x0, .dead, .dead, .dead, .dead, .dead, .dead, .dead, .dead, .dead, .dead, .dead, .dead, .dead, .dead, .dead, .dead, .dead], ofL [(64, .row 33 (.pair (.int .i64) (.int .i64)) x1 false)], 0⟩
noncomputable def All.b3 (u : Unit) (A3 : Int → (List (Int × Int)) → Option (List (Int × Int))) (E6 : Int → Int → (List (Int × Int)) → Option (List (Int × Int))) (x0 : Int) (x1 : (List (Int × Int))) : Option (List (Int × Int)) :=
  (if (decide (x0 ≤ (3 : Int))) then E6 x0 x0 x1 else some (x1))
noncomputable def All.l3 (fuel : Nat) (u : Unit) : Nat → Int → (List (Int × Int)) → Option (List (Int × Int))
  | 0, _, _ => none
  | k + 1, x0, x1 => All.b3 u (All.l3 fuel u k) (All.l6 fuel u (All.l3 fuel u k) fuel) x0 x1
noncomputable def All.b (u : Unit) (E3 : Int → (List (Int × Int)) → Option (List (Int × Int))) : Option (List (Int × Int)) :=
  E3 (1 : Int) []
noncomputable def All.f (fuel : Nat) (u : Unit) : Option (List (Int × Int)) := All.b u (All.l3 fuel u fuel)
theorem All.l6_eq (fuel : Nat) (u : Unit) (k3 : Nat) : ∀ (k : Nat) (x2 : Int) (x3 : Int) (x4 : (List (Int × Int))), lp All_E fuel Try.f22 [.own 33 (.pair (.int .i64) (.int .i64))] 0 All.k 6 [k3] k (All.s6 u x2 x3 x4) = All.l6 fuel u (fun x0 x1 => lp All_E fuel Try.f22 [.own 33 (.pair (.int .i64) (.int .i64))] 0 All.k 3 [] k3 (All.s3 u x0 x1)) k x2 x3 x4 := by
  intro k
  induction k with
  | zero => intro x2 x3 x4; rfl
  | succ k ih =>
    intro x2 x3 x4
    have h : lp All_E fuel Try.f22 [.own 33 (.pair (.int .i64) (.int .i64))] 0 All.k 6 [k3] (k + 1) (All.s6 u x2 x3 x4) = All.b6 u (fun x0 x1 => lp All_E fuel Try.f22 [.own 33 (.pair (.int .i64) (.int .i64))] 0 All.k 3 [] k3 (All.s3 u x0 x1)) (fun x2 x3 x4 => lp All_E fuel Try.f22 [.own 33 (.pair (.int .i64) (.int .i64))] 0 All.k 6 [k3] k (All.s6 u x2 x3 x4)) x2 x3 x4 := by kernel_rfl
    rw [h]
    have e6 : (fun x2 x3 x4 => lp All_E fuel Try.f22 [.own 33 (.pair (.int .i64) (.int .i64))] 0 All.k 6 [k3] k (All.s6 u x2 x3 x4)) = All.l6 fuel u (fun x0 x1 => lp All_E fuel Try.f22 [.own 33 (.pair (.int .i64) (.int .i64))] 0 All.k 3 [] k3 (All.s3 u x0 x1)) k := (funext fun x2 => (funext fun x3 => (funext fun x4 => ih x2 x3 x4)))
    rw [e6]
    rfl
theorem All.l3_eq (fuel : Nat) (u : Unit) : ∀ (k : Nat) (x0 : Int) (x1 : (List (Int × Int))), lp All_E fuel Try.f22 [.own 33 (.pair (.int .i64) (.int .i64))] 0 All.k 3 [] k (All.s3 u x0 x1) = All.l3 fuel u k x0 x1 := by
  intro k
  induction k with
  | zero => intro x0 x1; rfl
  | succ k ih =>
    intro x0 x1
    have h : lp All_E fuel Try.f22 [.own 33 (.pair (.int .i64) (.int .i64))] 0 All.k 3 [] (k + 1) (All.s3 u x0 x1) = All.b3 u (fun x0 x1 => lp All_E fuel Try.f22 [.own 33 (.pair (.int .i64) (.int .i64))] 0 All.k 3 [] k (All.s3 u x0 x1)) (fun x2 x3 x4 => lp All_E fuel Try.f22 [.own 33 (.pair (.int .i64) (.int .i64))] 0 All.k 6 [k] fuel (All.s6 u x2 x3 x4)) x0 x1 := by kernel_rfl
    rw [h]
    have e3 : (fun x0 x1 => lp All_E fuel Try.f22 [.own 33 (.pair (.int .i64) (.int .i64))] 0 All.k 3 [] k (All.s3 u x0 x1)) = All.l3 fuel u k := (funext fun x0 => (funext fun x1 => ih x0 x1))
    rw [e3]
    have e6 : (fun x2 x3 x4 => lp All_E fuel Try.f22 [.own 33 (.pair (.int .i64) (.int .i64))] 0 All.k 6 [k] fuel (All.s6 u x2 x3 x4)) = All.l6 fuel u (fun x0 x1 => lp All_E fuel Try.f22 [.own 33 (.pair (.int .i64) (.int .i64))] 0 All.k 3 [] k (All.s3 u x0 x1)) fuel := (funext fun x2 => (funext fun x3 => (funext fun x4 => All.l6_eq fuel u k fuel x2 x3 x4)))
    rw [e6]
    rw [e3]
    rfl
theorem All.eq (fuel : Nat) (u : Unit) : (denF All_E loopN fuel Try.f22 [.own 33 (.pair (.int .i64) (.int .i64))] [] [] All.k) = All.f fuel u := by
  have h : (denF All_E loopN fuel Try.f22 [.own 33 (.pair (.int .i64) (.int .i64))] [] [] All.k) = All.b u (fun x0 x1 => lp All_E fuel Try.f22 [.own 33 (.pair (.int .i64) (.int .i64))] 0 All.k 3 [] fuel (All.s3 u x0 x1)) := by kernel_rfl
  rw [h]
  have e3 : (fun x0 x1 => lp All_E fuel Try.f22 [.own 33 (.pair (.int .i64) (.int .i64))] 0 All.k 3 [] fuel (All.s3 u x0 x1)) = All.l3 fuel u fuel := (funext fun x0 => (funext fun x1 => All.l3_eq fuel u fuel x0 x1))
  rw [e3]
  rfl


noncomputable def Index_E : Env := ⟨th, gam [], fun i => if i = 2 then ⟨[0, 3, 7, 8], [], []⟩ else ⟨[], [], []⟩⟩
noncomputable def Index.k (rs : List AV) (os : List Den.Obj) : Option Int :=
  match rs, os with
  | [.d (.int .i64) r0], [] => some r0
  | _, _ => none
noncomputable def Index.s2 (l : List (Int × Int)) (a : Int) (b : Int) (x0 : Int) (x1 : Int) : St := ⟨[.d (.sl (.pair (.int .i64) (.int .i64))) (l), .dead, .dead, .ptr 64 0, .dead, .dead, .dead, .d (.int .i64) x0, .d (.int .i64) x1, .dead, .dead, .dead, .dead, .dead, .dead, .dead, .dead, .dead, .dead], ofL [(64, .box [.d (.int .i64) (a), .d (.int .i64) (b)])], 0⟩
noncomputable def Index.b2 (l : List (Int × Int)) (a : Int) (b : Int) (A2 : Int → Int → Option Int) (x0 : Int) (x1 : Int) : Option Int :=
  (if (decide (x1 < x0)) then (match (idx l x1) with | none => none | some y2 => (if (if (a == y2.1) then (if (b == y2.2) then true else false) else false) then some (x1) else A2 x0 (Go.IntKind.wrap .i64 (x1 + (1 : Int))))) else some ((-(1 : Int))))
noncomputable def Index.l2 (fuel : Nat) (l : List (Int × Int)) (a : Int) (b : Int) : Nat → Int → Int → Option Int
  | 0, _, _ => none
  | k + 1, x0, x1 => Index.b2 l a b (Index.l2 fuel l a b k) x0 x1
noncomputable def Index.b (l : List (Int × Int)) (a : Int) (b : Int) (E2 : Int → Int → Option Int) : Option Int :=
  E2 ((((List.length l)) : Nat) : Int) (0 : Int)
noncomputable def Index.f (fuel : Nat) (l : List (Int × Int)) (a : Int) (b : Int) : Option Int := Index.b l a b (Index.l2 fuel l a b fuel)
theorem Index.l2_eq (fuel : Nat) (l : List (Int × Int)) (a : Int) (b : Int) : ∀ (k : Nat) (x0 : Int) (x1 : Int), lp Index_E fuel Try.f44 [.raw] 0 Index.k 2 [] k (Index.s2 l a b x0 x1) = Index.l2 fuel l a b k x0 x1 := by
  intro k
  induction k with
  | zero => intro x0 x1; rfl
  | succ k ih =>
    intro x0 x1
    have h : lp Index_E fuel Try.f44 [.raw] 0 Index.k 2 [] (k + 1) (Index.s2 l a b x0 x1) = Index.b2 l a b (fun x0 x1 => lp Index_E fuel Try.f44 [.raw] 0 Index.k 2 [] k (Index.s2 l a b x0 x1)) x0 x1 := by kernel_rfl
    rw [h]
    have e2 : (fun x0 x1 => lp Index_E fuel Try.f44 [.raw] 0 Index.k 2 [] k (Index.s2 l a b x0 x1)) = Index.l2 fuel l a b k := (funext fun x0 => (funext fun x1 => ih x0 x1))
    rw [e2]
    rfl
theorem Index.eq (fuel : Nat) (l : List (Int × Int)) (a : Int) (b : Int) : (denF Index_E loopN fuel Try.f44 [.raw] [.d (.sl (.pair (.int .i64) (.int .i64))) l, .agg [.d (.int .i64) a, .d (.int .i64) b]] [] Index.k) = Index.f fuel l a b := by
  have h : (denF Index_E loopN fuel Try.f44 [.raw] [.d (.sl (.pair (.int .i64) (.int .i64))) l, .agg [.d (.int .i64) a, .d (.int .i64) b]] [] Index.k) = Index.b l a b (fun x0 x1 => lp Index_E fuel Try.f44 [.raw] 0 Index.k 2 [] fuel (Index.s2 l a b x0 x1)) := by kernel_rfl
  rw [h]
  have e2 : (fun x0 x1 => lp Index_E fuel Try.f44 [.raw] 0 Index.k 2 [] fuel (Index.s2 l a b x0 x1)) = Index.l2 fuel l a b fuel := (funext fun x0 => (funext fun x1 => Index.l2_eq fuel l a b fuel x0 x1))
  rw [e2]
  rfl


end Go.Proofs.Ytpgcdengljfojaa
