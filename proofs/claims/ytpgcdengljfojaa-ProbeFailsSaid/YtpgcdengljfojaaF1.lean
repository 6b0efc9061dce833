/- printed by denfn.py -/
import Derived.Test.YtpgcdengljfojaaTh
set_option linter.unusedVariables false
namespace Go.Proofs.Ytpgcdengljfojaa
open Go.Den
noncomputable def s23 : Den.Sum := ⟨[.dat (.pair (.int .i64) (.int .i64)) true], fun args objs κ => match args, objs with
  | [.agg [.d (.int .i64) lo, .d (.int .i64) hi]], [] => κ [.d .bool (decide (1 ≤ lo) && decide (lo ≤ hi) && decide (hi ≤ 3))] []
  | _, _ => none⟩
noncomputable def Valid_E : Env := ⟨th, gam [], fun i => ⟨[], [], []⟩⟩
noncomputable def Valid.k (rs : List AV) (os : List Den.Obj) : Option Bool :=
  match rs, os with
  | [.d .bool r0], [] => some r0
  | _, _ => none
noncomputable def Valid.b (lo : Int) (hi : Int) : Option Bool :=
  (if (decide (lo ≥ (1 : Int))) then (if (decide (lo ≤ hi)) then some ((decide (hi ≤ (3 : Int)))) else some (false)) else some (false))
noncomputable def Valid.f (fuel : Nat) (lo : Int) (hi : Int) : Option Bool := Valid.b lo hi
theorem Valid.eq (fuel : Nat) (lo : Int) (hi : Int) : (denF Valid_E loopN fuel Try.f23 [.raw] [.agg [.d (.int .i64) lo, .d (.int .i64) hi]] [] Valid.k) = Valid.f fuel lo hi := by
  kernel_rfl


noncomputable def Common_E : Env := ⟨th, gam [(23, s23)], fun i => if i = 3 then ⟨[2, 4, 8, 9, 10], [], []⟩ else ⟨[], [], []⟩⟩
noncomputable def Common.k (rs : List AV) (os : List Den.Obj) : Option (Int × Int × Bool) :=
  match rs, os with
  | [.agg [.d (.int .i64) r0, .d (.int .i64) r1], .d .bool r2], [] => some (r0, r1, r2)
  | _, _ => none
noncomputable def Common.s3 (l : List (Int × Int)) (x0 : Int) (x1 : Int) (x2 : Int) (x3 : Int) : St := ⟨[.dead, .dead, .ptr 64 0, .dead, .ptr 65 0, .dead, .dead, .dead, .d (.sl (.pair (.int .i64) (.int .i64))) (l), .d (.int .i64) x0, .d (.int .i64) x1, .dead, .dead, .dead, .dead, .dead, .dead, .dead, .dead, .dead, .dead, .dead, .dead, .dead, .dead, .dead, .dead, .dead, .dead, .dead, .dead, .dead, .dead, .dead, .dead, .dead], ofL [(64, .box [.d (.int .i64) (0), .d (.int .i64) (0)]), (65, .box [.d (.int .i64) x2, .d (.int .i64) x3])], 0⟩
noncomputable def Common.b3 (l : List (Int × Int)) (A3 : Int → Int → Int → Int → Option (Int × Int × Bool)) (x0 : Int) (x1 : Int) (x2 : Int) (x3 : Int) : Option (Int × Int × Bool) :=
  (if (decide (x1 < x0)) then (match (idx l x1) with | none => none | some y4 => (if (!(((decide (1 ≤ y4.1)) && (decide (y4.1 ≤ y4.2))) && (decide (y4.2 ≤ 3)))) then some (0, 0, false) else A3 x0 (Go.IntKind.wrap .i64 (x1 + (1 : Int))) (maxI x2 y4.1) (minI x3 y4.2))) else (if (!(((decide (1 ≤ x2)) && (decide (x2 ≤ x3))) && (decide (x3 ≤ 3)))) then some (0, 0, false) else some (x2, x3, true)))
noncomputable def Common.l3 (fuel : Nat) (l : List (Int × Int)) : Nat → Int → Int → Int → Int → Option (Int × Int × Bool)
  | 0, _, _, _, _ => none
  | k + 1, x0, x1, x2, x3 => Common.b3 l (Common.l3 fuel l k) x0 x1 x2 x3
noncomputable def Common.b (l : List (Int × Int)) (E3 : Int → Int → Int → Int → Option (Int × Int × Bool)) : Option (Int × Int × Bool) :=
  E3 ((((List.length l)) : Nat) : Int) (0 : Int) (1 : Int) (3 : Int)
noncomputable def Common.f (fuel : Nat) (l : List (Int × Int)) : Option (Int × Int × Bool) := Common.b l (Common.l3 fuel l fuel)
theorem Common.l3_eq (fuel : Nat) (l : List (Int × Int)) : ∀ (k : Nat) (x0 : Int) (x1 : Int) (x2 : Int) (x3 : Int), lp Common_E fuel Try.f18 [.dat (.pair (.int .i64) (.int .i64)) true, .raw] 0 Common.k 3 [] k (Common.s3 l x0 x1 x2 x3) = Common.l3 fuel l k x0 x1 x2 x3 := by
  intro k
  induction k with
  | zero => intro x0 x1 x2 x3; rfl
  | succ k ih =>
    intro x0 x1 x2 x3
    have h : lp Common_E fuel Try.f18 [.dat (.pair (.int .i64) (.int .i64)) true, .raw] 0 Common.k 3 [] (k + 1) (Common.s3 l x0 x1 x2 x3) = Common.b3 l (fun x0 x1 x2 x3 => lp Common_E fuel Try.f18 [.dat (.pair (.int .i64) (.int .i64)) true, .raw] 0 Common.k 3 [] k (Common.s3 l x0 x1 x2 x3)) x0 x1 x2 x3 := by kernel_rfl
    rw [h]
    have e3 : (fun x0 x1 x2 x3 => lp Common_E fuel Try.f18 [.dat (.pair (.int .i64) (.int .i64)) true, .raw] 0 Common.k 3 [] k (Common.s3 l x0 x1 x2 x3)) = Common.l3 fuel l k := (funext fun x0 => (funext fun x1 => (funext fun x2 => (funext fun x3 => ih x0 x1 x2 x3))))
    rw [e3]
    rfl
theorem Common.eq (fuel : Nat) (l : List (Int × Int)) : (denF Common_E loopN fuel Try.f18 [.dat (.pair (.int .i64) (.int .i64)) true, .raw] [.d (.sl (.pair (.int .i64) (.int .i64))) l] [] Common.k) = Common.f fuel l := by
  have h : (denF Common_E loopN fuel Try.f18 [.dat (.pair (.int .i64) (.int .i64)) true, .raw] [.d (.sl (.pair (.int .i64) (.int .i64))) l] [] Common.k) = Common.b l (fun x0 x1 x2 x3 => lp Common_E fuel Try.f18 [.dat (.pair (.int .i64) (.int .i64)) true, .raw] 0 Common.k 3 [] fuel (Common.s3 l x0 x1 x2 x3)) := by kernel_rfl
  rw [h]
  have e3 : (fun x0 x1 x2 x3 => lp Common_E fuel Try.f18 [.dat (.pair (.int .i64) (.int .i64)) true, .raw] 0 Common.k 3 [] fuel (Common.s3 l x0 x1 x2 x3)) = Common.l3 fuel l fuel := (funext fun x0 => (funext fun x1 => (funext fun x2 => (funext fun x3 => Common.l3_eq fuel l fuel x0 x1 x2 x3))))
  rw [e3]
  rfl


end Go.Proofs.Ytpgcdengljfojaa
